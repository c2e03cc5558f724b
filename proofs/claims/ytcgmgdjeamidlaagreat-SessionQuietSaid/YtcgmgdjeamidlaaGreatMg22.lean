/- Texts of one proof, joined. -/
import Derived.Test.YtcgmgdjeamidlaaGreatMg11
import Derived.Test.YtcgmgdjeamidlaaGreatMg21
namespace Go.Proofs.YtcgmgdjeamidlaaGreat
set_option maxRecDepth 100000
set_option maxHeartbeats 16000000
open Go.RowKit Go.ChangeShapes Go.WideShapes Go.ChangeAt Go.Proofs.Tryz
set_option linter.unusedVariables false
set_option linter.unusedSimpArgs false
structure It where
 key:Int
 vec:Sl
 tag:Sl
abbrev Rc:=Int×List Int×List Int
def It.c(x:It):Rc:=(x.key,x.vec.xs,x.tag.xs)
def It.cells(x:It):List Value:=[.int .u64 x.key,x.vec.v,x.tag.v]
def It.bs(x:It):List Nat:=x.vec.bs++x.tag.bs
def itL(l:List It):List Value:=l.flatMap It.cells
theorem itL_append(a b:List It):itL (a++b)=itL a++itL b:=by simp [itL]
theorem itL_len(l:List It):(itL l).length=l.length * 3:=by
 induction l with
 | nil=>rfl
 | cons x l ih=>
  show (x.cells++itL l).length=_;rw [List.length_append,ih];simp [It.cells];omega
theorem itL_get(l:List It):∀ (j:Nat) (x:It),l[j]? = some x→∀ i,i<3→(itL l)[j * 3+i]? = x.cells[i]?:=by
 induction l with
 | nil=>intro j x h;simp at h
 | cons y l ih=>
  intro j x h i hi;show (y.cells++itL l)[j * 3+i]? = _;cases j with
  | zero=>
   simp only [List.getElem?_cons_zero,Option.some.injEq] at h;subst h;rw [List.getElem?_append_left (by simp [It.cells];omega)];simp
  | succ j=>
   rw [List.getElem?_append_right (by simp [It.cells];omega)];have e:(j+1) * 3+i-y.cells.length=j * 3+i:=by simp [It.cells];omega
   rw [e];exact ih j x (by simpa using h) i hi
structure ItsAt(w:World)(B:Nat)(v:Value)(its:List It):Prop where
 own:w.ownsRow B tIt 3 v its.length (itL its)
 each:∀ x∈its,SlAt .i32 w x.vec∧SlAt .u8 w x.tag
 ge:∀ x∈its,∀ b∈x.bs,B≤b
 ap:∀ x∈its,∀ b∈x.bs,v.ownBlock≠some b
theorem ItsAt.only{G:List Nat}{w w':World}{B:Nat}{v:Value}{its:List It}(h:ItsAt w B v its)(k:Only G w w')(h1:∀ g,v.ownBlock=some g→g∉G)(h2:∀ x∈its,∀ b∈x.bs,b∉G):ItsAt w' B v its:=
 ⟨own_keep h.own fun g hg=>k.block g (h.own.lt g hg).2 (h1 g hg),fun x hx=>⟨(h.each x hx).1.only k fun b hb=>h2 x hx b (List.mem_append_left _ hb),(h.each x hx).2.only k fun b hb=>h2 x hx b (List.mem_append_right _ hb)⟩,h.ge,h.ap⟩
theorem ItsAt.lt{w:World}{B:Nat}{v:Value}{its:List It}(h:ItsAt w B v its):∀ x∈its,∀ b∈x.bs,b<w.heap.size:=fun x hx b hb=>by
 rcases List.mem_append.1 hb with hb|hb
 ·exact (h.each x hx).1.lt b hb
 ·exact (h.each x hx).2.lt b hb
theorem ItsAt.below{w w':World}{B:Nat}{v:Value}{its:List It}(h:ItsAt w B v its)(k:Below w.heap.size w w'):ItsAt w' B v its:=
 h.only ((Ω [] w).below k) (by simp) (by simp)
theorem infoIt:(prog.info? tIt).map (fun i=>(i.zero,i.size,i.bytes))=some (some (.agg #[.int .u64 0,.slice none 0 0,.slice none 0 0]),3,56):=by kernel_rfl
def visC(r:Option Ver):Option Rc:=match r with
 | some v=>if v.gone then none else some (v.key,v.vec.xs,v.tag.xs)
 | none=>none
theorem visC_none{r:Option Ver}(h:visC r=none):okV r=false:=by
 cases r with
 | none=>rfl
 | some v=>
  unfold visC at h;simp only at h;split at h
  ·rename_i hg;simp [okV,hg]
  ·cases h
theorem visC_some{r:Option Ver}{c:Rc}(h:visC r=some c):∃ v,r=some v∧v.gone=false∧c=(v.key,v.vec.xs,v.tag.xs):=by
 cases r with
 | none=>cases h
 | some v=>
  unfold visC at h;simp only at h;split at h
  ·cases h
  ·rename_i hg
   exact ⟨v,rfl,by simpa using hg,by simpa using h.symm⟩
def KeysAt(w:World)(a:Option Addr)(zs:List Int):Prop:=zs=[]∨∃ g,a=some ⟨g,0,none⟩∧∀ k,k<zs.length→w.cell? ⟨g,k,none⟩=some (.int .u64 (zs[k]?.getD 0))
theorem KeysAt.below{w w':World}{a:Option Addr}{zs:List Int}(h:KeysAt w a zs)(k:Below w.heap.size w w'):KeysAt w' a zs:=by
 rcases h with h|⟨g,e,h⟩
 ·exact .inl h
 ·refine .inr ⟨g,e,fun j hj=>?_⟩;have hc:=h j hj;rw [k.cell (World.block_lt_of_cell? w _ hc)];exact hc
def CompTo2(B:Nat)(ys:List Int)(w:World)(e:Ending)(w':World):Prop:=∃ (a:Option Addr) (c:Nat) (zs:List Int),e=.returned (.slice a zs.length c)∧zs.Pairwise (· < ·)∧(∀ x,x∈zs↔x∈ys)∧KeysAt w' a zs∧Below B w w'∧zs.length≤ys.length
theorem compact_any{B:Nat}{v:Value}{ys:List Int}{w:World}(hB:B≤w.heap.size)(h:w.ownsRow B 34 1 v ys.length (ys.map (Value.int .u64)))(hs:ys.Pairwise (·≤·))(hn:ys.length≤1000000) :
  Calls prog 259 #[v] w (CompTo2 B ys w):=by
 have h0:=h;rcases h.2 with ⟨rfl,hz⟩|⟨g,cap,cur,rfl,hb,hg,hc,hm,hcs,ht⟩
 ·have hx:ys=[]:=List.length_eq_zero_iff.1 hz;subst hx;have C:Calls prog 259 #[.slice none 0 0] w (fun e w'=>e=.returned (.slice none 0 0)∧w'=w):=by go_enter func259,ntmps259;go_wp2_with fail;go_ret;exact ⟨rfl,rfl⟩
  refine C.mono ?_;rintro e w' ⟨he,rfl⟩;exact ⟨none,0,[],he,List.Pairwise.nil,fun x=>Iff.rfl,.inl rfl,Δ _ _,Θ _⟩
 ·have hu:UA w B g cap ys.length ys.toArray:=by unfold UA;simpa using h0
  have hsort:∀ i j,i<j→j<ys.length→ys.toArray[i]!≤ys.toArray[j]!:=fun i j hij hj=>by rw [getElem!_pos ys.toArray i (by simp;omega),getElem!_pos ys.toArray j (by simpa using hj)];simpa using List.pairwise_iff_getElem.1 hs i j (by omega) hj hij
  refine (compact_arr hn hu hsort).mono ?_;rintro e w' ⟨m,c,zs,he,hl,hp,hmem,hcell,ho,hmn⟩;refine ⟨some ⟨g,0,none⟩,c,zs,by rw [he,hl],hp,fun x=>?_,.inr ⟨g,rfl,fun k hk=>hcell k (by omega)⟩,ho.toBelow hB (by simpa using hu.ge),by omega⟩;rw [hmem x,List.mem_iff_getElem];constructor
  ·rintro ⟨k,hk,he⟩;rw [getElem!_pos ys.toArray k (by simpa using hk)] at he;exact ⟨k,hk,by simpa using he⟩
  ·rintro ⟨k,hk,he⟩;exact ⟨k,hk,by rw [getElem!_pos ys.toArray k (by simpa using hk)];simpa using he⟩
def ListTo(all more:List Int)(r:Int→Option Ver)(w:World)(e:Ending)(w':World):Prop:=∃ (v:Value) (its:List It) (zs:List Int),e=.returned v∧ItsAt w' w.heap.size v its∧its.map It.c=zs.filterMap (fun k=>visC (r k))∧zs.Pairwise (· < ·)∧(∀ x,x∈zs↔x∈all∨x∈more)∧its.length≤1000000∧Below w.heap.size w w'
theorem take_filter{zs:List Int}{k:Nat}{z:Int}(f:Int→Option Rc)(h:zs[k]? = some z):(zs.take (k+1)).filterMap f=(zs.take k).filterMap f++(f z).toList:=by
 have hk:=(List.getElem?_eq_some_iff.1 h).1;rw [List.take_succ_eq_append_getElem hk,List.filterMap_append];have e:zs[k]=z:=by rw [List.getElem?_eq_getElem hk] at h;simpa using h
 rw [e];cases hf:f z<;>simp [hf]
theorem list_seen{w:World}{B p ba bo:Nat}{D:PDB}(h:DbAt w B p ba bo D){bx cx:Nat}{mv:Option Nat}{M:List (Int×Value)}(hM:MapV w (.map mv) .u64 M){r:Int→Option Ver}(hn:D.all.length+M.length≤1000000)
  (hr:∀ k v,r k=some v→VerAt w v) (LKh:∀ y k,Below w.heap.size w y→Calls prog 251 #[.int .u64 k,.pointer (some ⟨bx,0,none⟩),.pointer (some ⟨cx,0,none⟩)] y (AsOfTo (r k) y)) :
  Calls prog 250 #[.pointer (some ⟨p,0,none⟩),.func (.func 251) #[] #[.pointer (some ⟨bx,0,none⟩),.pointer (some ⟨cx,0,none⟩)],.map mv] w (ListTo (D.all.map (·.1)) (M.map (·.1)) r w):=by
 obtain ⟨i0,hi,hz0,hz1,hz2⟩:=info_parts infoIt;have LK:=Ξ LKh;have HR:=Ξ hr;have HN:=Ξ hn;have HM:=Ξ hM;have HA:=Ξ h.am;have c3:=h.row.c 3 (.map (some ba));clear h hr hn LKh hM;unfold AsOfTo at LK;go_enter func250,ntmps250;go_wp2_with fail;refine (keys_vs_any _ _).mono ?_;rintro _ w1 ⟨rfl,hw1⟩;have B1:Hid (Below w.heap.size w w1):=Ξ (by subst hw1;exact (Δ _ _).alloc (Θ _) _);have C:Hid (Calls prog 254 #[.func (.func 265) #[] #[.pointer (some ⟨w.heap.size,0,none⟩)]] w1 (AppTo (fun ys=>ys.Perm ((vsL D.all).map (·.1))) w1.heap.size [] (.slice none 0 0) w1)):=Ξ (by
  have hrow:Row w1 w.heap.size #[.map (some ba)] tMvs:=by subst hw1;exact Φ _ _ _
  exact collect_any w1 (keys_stops_vs 3 (by omega) w.heap.size (.map (some ba)) (vsL D.all) w1 hrow.lt (hrow.cell 0) (.inr ⟨ba,rfl,HA.out.only ((Ω [] w).below B1.out) (by simp)⟩)) keys_vs_enters (by have:=HN.out;simp [vsL];omega))
 clear hw1 c3;unfold AppTo at C;go_wp2_with fail;refine C.out.mono ?_;rintro _ w2 ⟨ks,v2,hp2,rfl,ho2,_,hb⟩;have B2:=Ξ (B1.out.trans (hb.mono B1.out.size));have P2:Hid (ks.Perm (D.all.map (·.1))∧ks.length=D.all.length):=Ξ (by
  have:(vsL D.all).map (·.1)=D.all.map (·.1):=by simp [vsL]
  rw [this] at hp2;exact ⟨hp2,by have:=hp2.length_eq;simpa using this⟩)
 have O2:=Ξ (own_mono (by simpa using ho2) B1.out.size);obtain ⟨p2,n2,c2,rfl⟩:∃ p n c,v2=.slice p n c:=by obtain ⟨a,b,e,_⟩:=own_shape ho2;exact ⟨_,_,_,e⟩
 clear hb C ho2 hp2;go_wp2_with fail;refine (keys_vr_any _ _).mono ?_;rintro _ w3 ⟨rfl,hw3⟩;have B3:Hid (Below w.heap.size w w3):=Ξ (by subst hw3;exact B2.out.trans ((Δ _ _).alloc B2.out.size _));have C:Hid (Calls prog 256 #[.slice p2 n2 c2,.func (.func 266) #[] #[.pointer (some ⟨w2.heap.size,0,none⟩)]] w3 (AppTo (fun ys=>ys.Perm (M.map (·.1))) w.heap.size ks (.slice p2 n2 c2) w3)):=Ξ (by
  have hrow:Row w3 w2.heap.size #[.map mv] tMvr:=by subst hw3;exact Φ _ _ _
  have ho3:w3.ownsRow w.heap.size tU 1 (.slice p2 n2 c2) ks.length (ks.map (Value.int .u64)):=by subst hw3;exact O2.out.alloc _
  exact callsIn_wide.1 (appendSeq_in 4 (by omega) w.heap.size ks p2 n2 c2 w3 B3.out.size ho3 (keys_stops_vr 3 (by omega) w2.heap.size (.map mv) M w3 hrow.lt (hrow.cell 0) (HM.out.only ((Ω [] w).below B3.out) (by simp))) keys_vr_enters (by have:=HN.out;have:=P2.out.2;omega)))
 clear hw3;unfold AppTo at C;go_wp2_with fail;refine C.out.mono ?_;rintro _ w4 ⟨ms,v4,hp4,rfl,ho4,_,hb⟩;have B4:Hid (Below w.heap.size w w4):=Ξ (B3.out.trans (hb.mono (Θ _)));have P4:Hid (ms.Perm (M.map (·.1))∧ms.length=M.length):=Ξ ⟨hp4,by have:=hp4.length_eq;simpa using this⟩;have O4:Hid (w4.ownsRow w.heap.size tU 1 v4 (ks++ms).length ((ks++ms).map (Value.int .u64))):=Ξ (by simpa using ho4);have S:=Ξ (sort_any B4.out.size O4.out (by have:=HN.out;have:=P4.out.2;have:=P2.out.2;simp;omega));unfold SortTo at S;obtain ⟨p4,n4,c4,rfl⟩:∃ p n c,v4=.slice p n c:=by obtain ⟨a,b,e,_⟩:=own_shape ho4;exact ⟨_,_,_,e⟩
 clear hb C ho4 hp4 O2;go_wp2_with fail;refine S.out.mono ?_;rintro _ w5 ⟨rfl,ys,hp5,hs5,ho5,hb⟩;have B5:=Ξ (B4.out.trans hb);have hl5:ys.length=(ks++ms).length:=hp5.length_eq;have P5:Hid (∀ x,x∈ys↔x∈D.all.map (·.1)∨x∈M.map (·.1)):=Ξ (fun x=>by rw [hp5.mem_iff,List.mem_append,P2.out.1.mem_iff,P4.out.1.mem_iff]);have L5:Hid (ys.length≤1000000):=Ξ (by have:=HN.out;have:=P4.out.2;have:=P2.out.2;simp at hl5;omega);have C:=Ξ (compact_any (ys:=ys) B5.out.size (by rw [hl5];exact ho5) hs5 L5.out);unfold CompTo2 at C;clear hb S hp5 hs5 ho5 O4 P2 P4 hl5;go_wp2_with fail;refine C.out.mono ?_;rintro _ w6 ⟨a6,c6,zs,rfl,hz,hm,hk,hb,hle⟩;have B6:=Ξ (B5.out.trans hb);have ZS:Hid (zs.Pairwise (· < ·)∧∀ x,x∈zs↔x∈D.all.map (·.1)∨x∈M.map (·.1)):=Ξ ⟨hz,fun x=>(hm x).trans (P5.out x)⟩;have KA:=Ξ hk;obtain ⟨m,hmm⟩:∃ m,zs.length=m:=⟨_,rfl⟩;have LM:=Ξ hmm;have LM2:Hid (m≤1000000):=Ξ (by have:=L5.out;omega);have I0:Hid (ItsAt w6 w.heap.size (.slice none 0 0) []):=Ξ ⟨World.ownsRow_nil _ _ _ _,by simp,by simp,by simp⟩;rw [hmm];clear hz hm hk hb hle C P5 L5 hmm;go_wp2_with fail;go_loopw [8,28] (fun u8 u28 wr=>∃ (k:Nat) (pv:Option Addr) (nv cv:Nat),(u8=.slice pv nv cv∧u28=.int .i64 (k:Int))∧Hid (k≤m)∧Hid (∃ its,ItsAt wr w.heap.size (.slice pv nv cv) its∧its.map It.c=(zs.take k).filterMap (fun k=>visC (r k)))∧Hid (Below w6.heap.size w6 wr∧∀ g,(Value.slice pv nv cv).ownBlock=some g→w6.heap.size≤g)) (fun _ u _=>m-(intOf u).toNat)
 case atStart=>exact ⟨0,none,0,0,⟨rfl,rfl⟩,Ξ (Nat.zero_le _),Ξ ⟨[],I0.out,by simp⟩,Ξ ⟨Δ _ _,fun g hg=>by simp [Value.ownBlock] at hg⟩⟩
 case round=>
  obtain ⟨k,pv,nv,cv,⟨rfl,rfl⟩,HK,hI,HB0⟩:=hrel;have HB:Hid (KeysAt wr a6 zs∧Below w.heap.size w wr):=Ξ ⟨KA.out.below HB0.out.1,B6.out.trans (HB0.out.1.mono B6.out.size)⟩;clear I0;obtain ⟨its,hi1,hi2⟩:=hI.out;have HI:=Ξ hi1;have HC:=Ξ hi2;clear hi1 hi2 hI;by_cases hk:k<m
  ·have d1:decide ((k:Int)<(m:Int))=true:=Γ (by omega);have d1':decide (k<m)=true:=Γ hk;have km:=hk;have e1:IntKind.i64.wrap ((k:Int)+1)=((k+1:Nat):Int):=w_inc _ (by have:=LM2.out;omega);obtain ⟨z,hz⟩:∃ z,zs[k]? = some z:=⟨_,List.getElem?_eq_getElem (by rw [LM.out];exact hk)⟩;have HZ:=Ξ hz;obtain ⟨g6,rfl,hg⟩:=HB.out.1.resolve_left (by intro e;rw [e] at hz;simp at hz);have c1:wr.cell? ⟨g6,k,none⟩=some (.int .u64 z):=by rw [hg k (by rw [LM.out];exact hk),hz];rfl
   have LK1:=Ξ (LK.out wr z HB.out.2);clear hg hz hk;cases hv:visC (r z) with
   | none=>
    have HV:=Ξ hv;have hok:=visC_none hv;obtain ⟨q,b1,m1,d1,b2,m2,d2,hit⟩:=itemV_shape (r z);rw [hok,hit] at LK1;clear hok hit hv;go_wp2_with fail;refine LK1.out.mono ?_;rintro _ w7 ⟨rfl,hb⟩;have B7:Hid (Below wr.heap.size wr (w7.alloc (.cells #[.int .u64 q,.slice b1 m1 d1,.slice b2 m2 d2] tIt))):=Ξ (hb.alloc hb.size _);clear hb LK1 c1;go_wp2_with fail;generalize w7.alloc (.cells #[.int .u64 q,.slice b1 m1 d1,.slice b2 m2 d2] tIt)=w8 at *;go_roundw;case rel=>exact ⟨k+1,pv,nv,cv,⟨rfl,by go_num⟩,Ξ (by omega),Ξ ⟨its,HI.out.below B7.out,by rw [take_filter _ HZ.out,HV.out,HC.out];simp⟩,Ξ ⟨HB0.out.1.trans (B7.out.mono HB0.out.1.size),HB0.out.2⟩⟩
    case measure=>simp [intOf];omega
   | some cc=>
    obtain ⟨v,hrv,hg,hcc⟩:=visC_some hv;have HV:Hid (visC (r z)=some (v.key,v.vec.xs,v.tag.xs)):=Ξ (by rw [hv,hcc]);have VA:=Ξ ((HR.out z v hrv).only ((Ω [] w).below HB.out.2) (by simp));rw [show itemV (r z)=#[.int .u64 v.key,v.vec.v,v.tag.v] by rw [hrv];rfl,show okV (r z)=true by rw [hrv];simp [okV,hg]] at LK1;clear hv hrv hg hcc cc;unfold Sl.v at LK1;go_wp2_with fail;refine LK1.out.mono ?_;rintro _ w7 ⟨rfl,hb⟩;have K7:Hid (Only [] wr (w7.alloc (.cells #[.int .u64 v.key,.slice v.vec.a v.vec.xs.length v.vec.c,.slice v.tag.a v.tag.xs.length v.tag.c] tIt))):=Ξ (((Ω [] wr).below hb).alloc _);have S7:=Ξ hb.size;have R7:=Ξ (Φ w7 #[.int .u64 v.key,.slice v.vec.a v.vec.xs.length v.vec.c,.slice v.tag.a v.tag.xs.length v.tag.c] tIt);clear hb LK1 c1;go_upto_region 10 with fail;generalize hw8:w7.alloc (.cells #[.int .u64 v.key,.slice v.vec.a v.vec.xs.length v.vec.c,.slice v.tag.a v.tag.xs.length v.tag.c] tIt)=w8 at *;clear hw8;have x0:=R7.out.c 0 (.int .u64 v.key);have x1:=R7.out.c 1 (.slice v.vec.a v.vec.xs.length v.vec.c);have x2:=R7.out.c 2 (.slice v.tag.a v.tag.xs.length v.tag.c);have OW:=Ξ (own_on (key:=v.key) (VA.out.vec.only K7.out (by simp)).rd (VA.out.tag.only K7.out (by simp)).rd);unfold OwnTo at OW;unfold Sl.v at OW;go_wp2_with fail;refine OW.out.mono ?_;rintro _ w9 ⟨s1,s2,rfl,x3,x4,m1,m2,fr,hb⟩;have K9:=Ξ (K7.out.below hb);have I9:=Ξ (HI.out.only K9.out (by simp) (by simp));have NS:Hid (SlAt .i32 w9 s1∧SlAt .u8 w9 s2):=Ξ ⟨m1,m2⟩;have FR:Hid (∀ b∈s1.bs++s2.bs,wr.heap.size≤b):=Ξ (fun b hb'=>Nat.le_trans K7.out.size (fr b hb'));have EX:Hid (s1.xs=v.vec.xs∧s2.xs=v.tag.xs):=Ξ ⟨x3,x4⟩;have IL:Hid (its.length≤1000000):=Ξ (by
     have h1:=congrArg List.length HC.out;have h2:=List.length_filterMap_le (fun k=>visC (r k)) (zs.take k);have h3:(zs.take k).length≤zs.length:=by simp;omega
     have:=LM.out;have:=LM2.out;simp only [List.length_map] at h1;omega)
    clear hb m1 m2 fr x0 x1 x2 x3 x4 OW;go_wp2_with (at_builtin;refine wpList_append_at rfl (.tmp 39) (.tmp 42) 38 rfl w.heap.size tIt i0 _ 3 56 underlying38 hi hz0 hz1 hz2 rfl (by decide) (.slice pv nv cv) its.length (itL its) rfl (I9.out.own.alloc _) ⟨w9.heap.size,0,none⟩ 1 1 [.int .u64 v.key,s1.v,s2.v] rfl rfl ?cells (by intro u hu;simp at hu;rcases hu with rfl|rfl|rfl<;>simp [Value.oneCell',Sl.v]) (by have:=IL.out;unfold maxLen;omega) (by have:=IL.out;omega) (by have:=K9.out.size;have:=HB.out.2.size;simp;omega) ?more);case cells=>
     intro j u hj;have hr:=Φ w9 #[.int .u64 v.key,s1.v,s2.v] tIt;rw [add_plain,Nat.zero_add];exact (hr.cell j).trans (by simpa using hj)
    case more=>
     intro v' w10 hown' hgrow hfr;have hsh:=own_shape hown';obtain ⟨p',c',rfl,_⟩:=hsh;have hgs:=hgrow.size;have KG:Hid (Only ((Value.slice pv nv cv).ownBlock.toList) w9 w10):=Ξ (((Ω _ w9).alloc _).grown hgrow (fun b hb=>.inl (by rw [hb];simp)));have hlt9:∀ b,b∈s1.bs++s2.bs→b<w9.heap.size:=fun b hb=>by
      rcases List.mem_append.1 hb with hb|hb
      ·exact NS.out.1.lt b hb
      ·exact NS.out.2.lt b hb
     have hob:∀ g,(Value.slice pv nv cv).ownBlock=some g→g<wr.heap.size:=fun g hg=>(HI.out.own.lt g hg).2;have NI:Hid (ItsAt w10 w.heap.size (.slice p' (its.length+1) c') (its++[⟨v.key,s1,s2⟩])):=Ξ (by
      have hnot:∀ x∈its++[(⟨v.key,s1,s2⟩:It)],∀ b∈x.bs,b∉(Value.slice pv nv cv).ownBlock.toList:=by
       intro x hx b hb hmem;simp only [Option.mem_toList] at hmem;rcases List.mem_append.1 hx with hx|hx
       ·exact HI.out.ap x hx b hb hmem
       ·simp only [List.mem_singleton] at hx;subst hx;have:=FR.out b hb;have:=hob b hmem;omega
      refine ⟨by simpa [itL_append,itL,It.cells] using hown',?_,?_,?_⟩
      ·intro x hx;have hn:=hnot x hx;rcases List.mem_append.1 hx with hx|hx
       ·exact ⟨(I9.out.each x hx).1.only KG.out fun b hb=>hn b (List.mem_append_left _ hb),(I9.out.each x hx).2.only KG.out fun b hb=>hn b (List.mem_append_right _ hb)⟩
       ·simp only [List.mem_singleton] at hx;subst hx;exact ⟨NS.out.1.only KG.out fun b hb=>hn b (List.mem_append_left _ hb),NS.out.2.only KG.out fun b hb=>hn b (List.mem_append_right _ hb)⟩
      ·intro x hx b hb;rcases List.mem_append.1 hx with hx|hx
       ·exact HI.out.ge x hx b hb
       ·simp only [List.mem_singleton] at hx;subst hx;have:=FR.out b hb;have:=HB.out.2.size;omega
      ·intro x hx b hb he;rcases hfr with h1|h1
       ·rw [h1] at he;exact hnot x hx b hb (by rw [he];simp)
       ·have h2:=h1 b he;try simp only [World.size_alloc] at h2
        rcases List.mem_append.1 hx with hx|hx
        ·have:=I9.out.lt x hx b hb;omega
        ·simp only [List.mem_singleton] at hx;subst hx;have:=hlt9 b hb;omega)
     have BB:Hid (Below w6.heap.size w6 w10∧∀ g,(Value.slice p' (its.length+1) c').ownBlock=some g→w6.heap.size≤g):=Ξ ⟨HB0.out.1.trans ((K9.out.toBelow HB0.out.1.size (by simp)).trans (KG.out.toBelow (by have:=K9.out.size;have:=HB0.out.1.size;omega) (by
      intro b hb;simp only [Option.mem_toList] at hb;exact HB0.out.2 b hb))),fun g hg=>by
       rcases hfr with h1|h1
       ·rw [h1] at hg;exact HB0.out.2 g hg
       ·have h2:=h1 g hg;try simp only [World.size_alloc] at h2
        have:=K9.out.size;have:=HB0.out.1.size;omega⟩
     clear hown' hgrow hfr hgs hlt9 hob;go_wp2_with fail;go_roundw;case rel=>exact ⟨k+1,p',its.length+1,c',⟨rfl,by go_num⟩,Ξ (by omega),Ξ ⟨_,NI.out,by rw [take_filter _ HZ.out,HV.out,List.map_append,HC.out,←EX.out.1,←EX.out.2];rfl⟩,BB⟩
     case measure=>simp [intOf];omega
  ·have d1:decide ((k:Int)<(m:Int))=false:=Λ (by omega);have d1':decide (k<m)=false:=Λ hk;have HKm:Hid (zs.take k=zs):=Ξ (List.take_of_length_le (by rw [LM.out];omega));clear hk;go_wp2_with fail;go_ret;exact ⟨_,its,zs,rfl,HI.out,by rw [HC.out,HKm.out],ZS.out.1,ZS.out.2,by
    have h1:=congrArg List.length HC.out;have h2:=List.length_filterMap_le (fun k=>visC (r k)) (zs.take k);have h3:(zs.take k).length≤zs.length:=by simp;omega
    have:=LM.out;have:=LM2.out;simp only [List.length_map] at h1;omega,HB.out.2⟩
structure Small(D:PDB):Prop where
 keys:D.all.length≤400000
 vers:∀ k,(vsOf D.all k).vs.length≤400000
 wr:∀ o∈D.op,o.wr.length≤400000
 ops:D.op.length≤8
theorem ListTo.base{all more:List Int}{r:Int→Option Ver}{w y:World}{e:Ending}{w':World}(h:ListTo all more r y e w')(k:Below w.heap.size w y):ListTo all more r w e w':=by obtain ⟨v,its,zs,he,hi,hc,hz,hm,hl,hb⟩:=h;exact ⟨v,its,zs,he,⟨own_mono hi.own k.size,hi.each,fun x hx b hb=>Nat.le_trans k.size (hi.ge x hx b hb),hi.ap⟩,hc,hz,hm,hl,k.trans (hb.mono k.size)⟩
theorem seen_small{D:PDB}(hs:Small D){o:PTx}(ho:o∈D.op):D.all.length+(wrL o.wr).length≤1000000:=by have:=hs.keys;have:=hs.wr o ho;simp [wrL];omega
theorem seen_on{w:World}{B p ba bo:Nat}{D:PDB}(h:DbAt w B p ba bo D)(hs:Small D){o:PTx}(ho:o∈D.op) :
  Calls prog 242 #[.pointer (some ⟨p,0,none⟩),.pointer (some ⟨o.bt,0,none⟩)] w (ListTo (D.all.map (·.1)) (o.wr.map (·.1)) (seesR D o) w):=by
 have O1:Only [] w ((w.alloc (.cells #[.pointer (some ⟨p,0,none⟩)] 24)).alloc (.cells #[.pointer (some ⟨o.bt,0,none⟩)] 280)):=((Ω [] w).alloc _).alloc _;have R1:=Ξ ((Φ w #[.pointer (some ⟨p,0,none⟩)] 24).only ((Ω [] _).alloc (.cells #[.pointer (some ⟨o.bt,0,none⟩)] 280)) (by simp));have R2:=Ξ (Φ (w.alloc (.cells #[.pointer (some ⟨p,0,none⟩)] 24)) #[.pointer (some ⟨o.bt,0,none⟩)] 280);rw [show (w.alloc (.cells #[.pointer (some ⟨p,0,none⟩)] 24)).heap.size=w.heap.size+1 by simp] at R2;have HD:=Ξ (h.only O1 (by simp));have OT:=Ξ ((h.oa o ho).1.only O1 (by simp));have OM:=Ξ ((h.oa o ho).2.only O1 (by simp));have HO:=Ξ O1;have HS:=Ξ hs;have HM:=Ξ ho;have HL:=Ξ h;clear h hs ho O1;go_enter func242,ntmps242;go_upto_region 1 with fail;generalize (w.alloc (.cells #[.pointer (some ⟨p,0,none⟩)] 24)).alloc (.cells #[.pointer (some ⟨o.bt,0,none⟩)] 280)=w1 at *;have L:Hid (∀ y,Only [] w1 y→Calls prog 250 #[.pointer (some ⟨p,0,none⟩),.func (.func 251) #[] #[.pointer (some ⟨w.heap.size,0,none⟩),.pointer (some ⟨w.heap.size+1,0,none⟩)],.map (some o.bm)] y (ListTo (D.all.map (·.1)) ((wrL o.wr).map (·.1)) (seesR D o) y)):=Ξ fun y hy=>list_seen (bx:=w.heap.size) (cx:=w.heap.size+1) (M:=wrL o.wr) (r:=seesR D o) (HD.out.only hy (by simp)) (.inr ⟨o.bm,rfl,OM.out.only hy (by simp)⟩) (seen_small HS.out HM.out) (fun k v hv=>((seesR_at HL.out HM.out hv).only HO.out (by simp)).only hy (by simp))
  (fun y2 k hy2=>seen1_on ((HD.out.only hy (by simp)).only ((Ω [] _).below hy2) (by simp)) HM.out ((R1.out.only hy (by simp)).only ((Ω [] _).below hy2) (by simp)) ((R2.out.only hy (by simp)).only ((Ω [] _).below hy2) (by simp)) k (by have:=HS.out.vers k;omega))
 unfold ListTo at L;have SO:Hid (∀ y,Only [] w1 y→y.cell? ⟨w.heap.size,0,none⟩=some (.pointer (some ⟨p,0,none⟩))∧y.cell? ⟨w.heap.size+1,0,none⟩=some (.pointer (some ⟨o.bt,0,none⟩))∧y.cell? ⟨o.bt,1,none⟩=some (.map (some o.bm))):=Ξ fun y hy=>⟨(R1.out.only hy (by simp)).cell 0,(R2.out.only hy (by simp)).cell 0,(OT.out.only hy (by simp)).cell 1⟩;go_region_held3 (fun y=>y.cell? ⟨w.heap.size,0,none⟩=some (.pointer (some ⟨p,0,none⟩))∧y.cell? ⟨w.heap.size+1,0,none⟩=some (.pointer (some ⟨o.bt,0,none⟩))∧y.cell? ⟨o.bt,1,none⟩=some (.map (some o.bm)))
  (first
   | exact SO.out _ X2.out
   | exact SO.out _ ((Ω [] w1).drew.mono (by simp)))
  (first|((with_reducible refine (L.out w1.drew ((Ω [] w1).drew)).mono ?_);rintro _ w2 ⟨v,its,zs,rfl,h1⟩;have X2:=Ξ ((Ω [] w1).drew.below h1.2.2.2.2.2);have H1:=Ξ h1;clear h1))
 all_goals
  go_wp2_with fail;go_ret;have hm:(wrL o.wr).map (·.1)=o.wr.map (·.1):=by simp [wrL]
  have h2:=H1.out;rw [hm] at h2;exact ListTo.base (y:=w1.drew) ⟨v,its,zs,rfl,h2⟩ ((HO.out.drew).toBelow (Θ _) (by simp))
theorem run_clear_cells{P:Program}(n:Nat)(w:World)(t e ty:TypeId)(z:Value)(ht:P.underlying t=some (.slice e))(hv:∀ w,(zeroValue e).run P w=.ok z w)(h1:∀ u∈(Builtin.zeroCells z.cells n).toList,u.oneCell'=true)(b o c:Nat)(hn:0<n)
  (hc:∀ j,j<(Builtin.zeroCells z.cells n).toList.length→(w.cell? ⟨b,o+j,none⟩).isSome=true) (hf:∀ j,w.frozen? ⟨b,o+j,none⟩=false) :
  (Builtin.clear_ #[t] ty #[.slice (some ⟨b,o,none⟩) n c]).run P w=.ok (.tuple #[]) (w.setCells b o (Builtin.zeroCells z.cells n).toList):=by
 have hst:=run_storeCells_cells (P:=P) b o (Builtin.zeroCells z.cells n).toList 0 w (by simpa using hc) (fun j _=>by simpa using hf j) h1;simp only [Nat.add_zero] at hst;obtain ⟨m,rfl⟩:∃ m,n=m+1:=⟨n-1,by omega⟩;simp [Builtin.clear_,run_underlying ht,hv,hst]
theorem zeroIt(w:World):(zeroValue tIt).run prog w=.ok (.agg #[.int .u64 0,.slice none 0 0,.slice none 0 0]) w:=by kernel_rfl
theorem zeroIt_cells(n:Nat):(Builtin.zeroCells (Value.agg #[.int .u64 0,.slice none 0 0,.slice none 0 0]).cells n).toList.length=n * 3∧∀ u∈(Builtin.zeroCells (Value.agg #[.int .u64 0,.slice none 0 0,.slice none 0 0]).cells n).toList,u.oneCell'=true:=by
 have hc:(Value.agg #[.int .u64 0,.slice none 0 0,.slice none 0 0]).cells=#[.int .u64 0,.slice none 0 0,.slice none 0 0]:=by kernel_rfl
 rw [hc];constructor
 ·simp [Builtin.zeroCells]
 ·intro u hu;simp only [Builtin.zeroCells,Array.toList_map,List.mem_map] at hu;obtain ⟨i,_,rfl⟩:=hu;have h3:i % 3<3:=Nat.mod_lt _ (by omega);have:i % 3=0∨i % 3=1∨i % 3=2:=by omega
  rcases this with h|h|h<;>simp [h,Value.oneCell']
structure RdAt(w:World)(B:Nat)(a:Option Addr)(its:List It):Prop where
 row:its=[]∨∃ g,a=some ⟨g,0,none⟩∧g<w.heap.size∧B≤g∧(∀ j x,its[j]? = some x→∀ i,i<3→w.cell? ⟨g,j * 3+i,none⟩=x.cells[i]?)∧∀ x∈its,∀ b∈x.bs,b≠g
 each:∀ x∈its,SlAt .i32 w x.vec∧SlAt .u8 w x.tag
 ge:∀ x∈its,∀ b∈x.bs,B≤b
theorem ItsAt.rd{w:World}{B:Nat}{a:Option Addr}{n c:Nat}{its:List It}(h:ItsAt w B (.slice a n c) its):RdAt w B a its:=by
 refine ⟨?_,h.each,h.ge⟩;rcases h.own.2 with ⟨hv,h0⟩|⟨g,cap,cur,hv,hb,hg,hc,_⟩
 ·exact .inl (List.length_eq_zero_iff.1 h0)
 ·simp only [Value.slice.injEq] at hv;obtain ⟨rfl,rfl,rfl⟩:=hv;refine .inr ⟨g,rfl,(Array.getElem?_eq_some_iff.1 hg).1,hb,fun j x hx i hi=>?_,fun x hx b hb e=>h.ap x hx b hb (by simp [Value.ownBlock,e])⟩;have hj:=(List.getElem?_eq_some_iff.1 hx).1;have:=h.own.cellAt (j * 3+i) (by omega);rw [this,itL_get its j x hx i hi]
def IRow(w:World)(B g cap n:Nat)(its:List It):Prop:=w.ownsRow B tIt 3 (.slice (some ⟨g,0,none⟩) n cap) n (itL its)
theorem IRow.len{w:World}{B g cap n:Nat}{its:List It}(h:IRow w B g cap n its):its.length=n:=by have:=h.1;rw [itL_len] at this;omega
theorem IRow.cell{w:World}{B g cap n:Nat}{its:List It}(h:IRow w B g cap n its){j:Nat}{x:It}(hx:its[j]? = some x)(i:Nat)(hi:i<3):w.cell? ⟨g,j * 3+i,none⟩=x.cells[i]?:=by have hj:=(List.getElem?_eq_some_iff.1 hx).1;have hl:=h.len;rw [World.ownsRow.cellAt h (j * 3+i) (by omega),itL_get its j x hx i hi]
theorem IRow.free{w:World}{B g cap n:Nat}{its:List It}(h:IRow w B g cap n its)(k:Nat):w.frozen? ⟨g,k,none⟩=false:=World.ownsRow.frozenAt h k
theorem IRow.only{w w':World}{B g cap n:Nat}{its:List It}{G:List Nat}(h:IRow w B g cap n its)(k:Only G w w')(hg:g∉G):IRow w' B g cap n its:=
 own_keep h fun b hb=>by simp [Value.ownBlock] at hb;subst hb;exact k.block _ (World.ownsRow.lt h _ rfl).2 hg
theorem itL_set(its:List It):∀ (i:Nat) (x:It),i<its.length→itL (its.set i x)=(((itL its).set (i * 3) (.int .u64 x.key)).set (i * 3+1) x.vec.v).set (i * 3+2) x.tag.v:=by
 induction its with
 | nil=>intro i x h;simp at h
 | cons y l ih=>
  intro i x h;cases i with
  | zero=>simp [itL,It.cells]
  | succ i=>
   have h2:=ih i x (by simpa using h);show y.cells++itL (l.set i x)=_;rw [h2];show _=(((y.cells++itL l).set ((i+1) * 3) _).set ((i+1) * 3+1) _).set ((i+1) * 3+2) _;have e:y.cells.length=3:=rfl;rw [List.set_append_right _ _ (by omega),List.set_append_right _ _ (by omega),List.set_append_right _ _ (by omega),e];rw [show (i+1) * 3-3=i * 3 by omega,show (i+1) * 3+1-3=i * 3+1 by omega,show (i+1) * 3+2-3=i * 3+2 by omega]
theorem IRow.put{w:World}{B g cap n:Nat}{its:List It}(h:IRow w B g cap n its)(i:Nat)(x:It)(hi:i<n) :
  IRow (((w.setCell ⟨g,i * 3,none⟩ (.int .u64 x.key)).setCell ⟨g,i * 3+1,none⟩ x.vec.v).setCell ⟨g,i * 3+2,none⟩ x.tag.v) B g cap n (its.set i x)∧Only [g] w (((w.setCell ⟨g,i * 3,none⟩ (.int .u64 x.key)).setCell ⟨g,i * 3+1,none⟩ x.vec.v).setCell ⟨g,i * 3+2,none⟩ x.tag.v):=by
 refine ⟨?_,((((Ω [g] w).setCell (.inl (by simp)) _).setCell (.inl (by simp)) _).setCell (.inl (by simp)) _)⟩;unfold IRow;rw [itL_set its i x (by rw [h.len];exact hi)];exact (World.ownsRow.stored (World.ownsRow.stored (World.ownsRow.stored h (i * 3) (.int .u64 x.key)).1 (i * 3+1) x.vec.v).1 (i * 3+2) x.tag.v).1
def outR(lo hi:Int)(x:It):Bool:=decide (x.key<lo) || decide (hi<x.key)
theorem range1_on{w:World}{fb tb:Nat}{lo hi:Int}(h1:Row w fb #[.int .u64 lo] 34)(h2:Row w tb #[.int .u64 hi] 34)(x:It) :
  Calls prog 246 #[.agg #[.int .u64 x.key,x.vec.v,x.tag.v],.pointer (some ⟨fb,0,none⟩),.pointer (some ⟨tb,0,none⟩)] w fun e w'=>e=.returned (.bool (outR lo hi x))∧Below w.heap.size w w':=by
 have H1:=Ξ (h1.only ((Ω [] w).alloc (.cells #[.int .u64 x.key,x.vec.v,x.tag.v] tIt)) (by simp));have H2:=Ξ (h2.only ((Ω [] w).alloc (.cells #[.int .u64 x.key,x.vec.v,x.tag.v] tIt)) (by simp));have R:=Ξ (Φ w #[.int .u64 x.key,x.vec.v,x.tag.v] tIt);have c1:=H1.out.c 0 (.int .u64 lo);have c2:=H2.out.c 0 (.int .u64 hi);have K:Hid (Below w.heap.size w (w.alloc (.cells #[.int .u64 x.key,x.vec.v,x.tag.v] tIt))):=Ξ ((Δ _ _).alloc (Θ _) _);obtain ⟨k,hk⟩:∃ k,x.key=k:=⟨_,rfl⟩;have HK:=Ξ hk;rw [hk] at R c1 c2 K ⊢;clear h1 h2 hk H1 H2;unfold Sl.v at R c1 c2 K ⊢;by_cases ha:k<lo
 ·have d1:decide (k<lo)=true:=Γ ha;have OR:Hid (outR lo hi x=true):=Ξ (by unfold outR;rw [HK.out,d1];rfl);clear ha;go_enter func246,ntmps246;go_wp2_with fail;go_ret;exact ⟨by rw [OR.out];rfl,K.out⟩
 ·have d1:decide (k<lo)=false:=Λ ha;cases hb:decide (hi<k) with
  | true=>
   have OR:Hid (outR lo hi x=true):=Ξ (by unfold outR;rw [HK.out,hb];simp);go_enter func246,ntmps246;go_wp2_with fail;go_ret;exact ⟨by rw [OR.out];rfl,K.out⟩
  | false=>
   have OR:Hid (outR lo hi x=false):=Ξ (by unfold outR;rw [HK.out,hb,d1];rfl);go_enter func246,ntmps246;go_wp2_with fail;go_ret;exact ⟨by rw [OR.out];rfl,K.out⟩
/-! ### IndexFunc,DeleteFunc -/
def IxTo(F:It→Bool)(its:List It)(w:World)(e:Ending)(w':World):Prop:=∃ i:Int,e=.returned (.int .i64 i)∧Below w.heap.size w w' ∧
 ((i = -1∧∀ x∈its,F x=false)∨∃ j:Nat,i=(j:Int)∧j<its.length∧(∀ k x,k<j→its[k]? = some x→F x=false)∧∀ x,its[j]? = some x→F x=true)
theorem index_on{w:World}{B g cap n fb tb:Nat}{its:List It}{F:It→Bool}(h:IRow w B g cap n its)(hn:n≤1000000)
  (LKh:∀ y x,Below w.heap.size w y→Calls prog 246 #[.agg #[.int .u64 x.key,x.vec.v,x.tag.v],.pointer (some ⟨fb,0,none⟩),.pointer (some ⟨tb,0,none⟩)] y fun e w'=>e=.returned (.bool (F x))∧Below y.heap.size y w') :
  Calls prog 175 #[.slice (some ⟨g,0,none⟩) n cap,.func (.func 246) #[] #[.pointer (some ⟨fb,0,none⟩),.pointer (some ⟨tb,0,none⟩)]] w (IxTo F its w):=by
 have HR:=Ξ h;have HL:=Ξ h.len;have LK:=Ξ LKh;have HN:=Ξ hn;clear h LKh hn;go_enter func175,ntmps175;go_wp2_with fail;go_loopw [8] (fun u wr=>∃ k:Nat,u=.int .i64 (k:Int)∧Hid (k≤n)∧Hid (Below w.heap.size w wr)∧Hid (∀ i x,i<k→its[i]? = some x→F x=false)) (fun u _=>n-(intOf u).toNat)
 case atStart=>exact ⟨0,rfl,Ξ (Nat.zero_le _),Ξ (Δ _ _),Ξ (fun i x h=>by omega)⟩
 case round=>
  obtain ⟨k,rfl,HK,HB,HF⟩:=hrel;by_cases hk:k<n
  ·have d1:decide ((k:Int)<(n:Int))=true:=Γ (by omega);have d1':decide (k<n)=true:=Γ hk;have km:=hk;have e1:IntKind.i64.wrap ((k:Int)+1)=((k+1:Nat):Int):=w_inc _ (by have:=HN.out;omega);obtain ⟨x,hx⟩:∃ x,its[k]? = some x:=⟨_,List.getElem?_eq_getElem (by rw [HL.out];exact hk)⟩;have HX:=Ξ hx;have RW:=Ξ (HR.out.only ((Ω [] w).below HB.out) (by simp));have c0:wr.cell? ⟨g,k * 3,none⟩=some (.int .u64 x.key):=RW.out.cell hx 0 (by omega);have c1:wr.cell? ⟨g,k * 3+1,none⟩=some x.vec.v:=RW.out.cell hx 1 (by omega);have c2:wr.cell? ⟨g,k * 3+2,none⟩=some x.tag.v:=RW.out.cell hx 2 (by omega);have LK1:=Ξ (LK.out wr x HB.out);clear hx hk;unfold Sl.v at c1 c2 LK1;cases hF:F x with
   | true=>
    have HFX:=Ξ hF;rw [hF] at LK1;clear hF;go_wp2_with fail;refine LK1.out.mono ?_;rintro _ w2 ⟨rfl,hb⟩;have B2:=Ξ (HB.out.trans (hb.mono HB.out.size));clear hb LK1 c0 c1 c2;go_wp2_with fail;go_ret;exact ⟨_,rfl,B2.out,.inr ⟨k,rfl,by rw [HL.out];exact km,HF.out,fun y hy=>by rw [HX.out] at hy;cases hy;exact HFX.out⟩⟩
   | false=>
    have HFX:=Ξ hF;rw [hF] at LK1;clear hF;go_wp2_with fail;refine LK1.out.mono ?_;rintro _ w2 ⟨rfl,hb⟩;have B2:=Ξ (HB.out.trans (hb.mono HB.out.size));clear hb LK1 c0 c1 c2;go_wp2_with fail;go_roundw;case rel=>exact ⟨k+1,by go_num,Ξ (by omega),B2,Ξ (fun i y h1 h2=>by
     by_cases e:i<k
     ·exact HF.out i y e h2
     ·obtain rfl:i=k:=by omega
      rw [HX.out] at h2;cases h2;exact HFX.out)⟩
    case measure=>simp [intOf];omega
  ·have d1:decide ((k:Int)<(n:Int))=false:=Λ (by omega);have d1':decide (k<n)=false:=Λ hk;have HKm:Hid (k=n):=Ξ (by have:=HK.out;omega);clear hk;go_wp2_with fail;go_ret;exact ⟨-1,rfl,HB.out,.inl ⟨rfl,fun x hx=>by obtain ⟨i,hi⟩:=List.mem_iff_getElem?.1 hx;exact HF.out i x (by have:=(List.getElem?_eq_some_iff.1 hi).1;rw [HL.out] at this;rw [HKm.out];exact this) hi⟩⟩
theorem filter_take{l:List It}{j:Nat}{x:It}(p:It→Bool)(h:l[j]? = some x):(l.take (j+1)).filter p=(l.take j).filter p++(if p x then [x] else []):=by
 have hk:=(List.getElem?_eq_some_iff.1 h).1;rw [List.take_succ_eq_append_getElem hk,List.filter_append];have e:l[j]=x:=by rw [List.getElem?_eq_getElem hk] at h;simpa using h
 rw [e];cases hf:p x<;>simp [hf]
structure DlInv(F:It→Bool)(its cur:List It)(i j:Nat):Prop where
 ij:i<j
 len:cur.length=its.length
 head:cur.take i=(its.take j).filter fun x=>!F x
 rest:∀ k,j≤k→cur[k]? = its[k]?
theorem DlInv.skip{F:It→Bool}{its cur:List It}{i j:Nat}{x:It}(h:DlInv F its cur i j)(hx:its[j]? = some x)(hF:F x=true):DlInv F its cur i (j+1):=
 ⟨by have:=h.ij;omega,h.len,by rw [filter_take _ hx,h.head,hF];simp,fun k hk=>h.rest k (by omega)⟩
theorem DlInv.keep{F:It→Bool}{its cur:List It}{i j:Nat}{x:It}(h:DlInv F its cur i j)(hx:its[j]? = some x)(hF:F x=false):DlInv F its (cur.set i x) (i+1) (j+1):=by
 have hj:=(List.getElem?_eq_some_iff.1 hx).1;have hi:i<cur.length:=by have:=h.ij;have:=h.len;omega
 refine ⟨by have:=h.ij;omega,by simp [h.len],?_,fun k hk=>?_⟩
 ·rw [filter_take _ hx,←h.head,hF];rw [List.take_succ_eq_append_getElem (by simpa using hi)];rw [List.take_set,List.set_eq_of_length_le (by simp;omega)];simp
 ·rw [List.getElem?_set_ne (by have:=h.ij;omega)];exact h.rest k (by omega)
def DelTo(F:It→Bool)(its:List It)(B:Nat)(w:World)(e:Ending)(w':World):Prop:=∃ (a:Option Addr) (c:Nat),e=.returned (.slice a (its.filter fun x=>!F x).length c)∧(its.filter fun x=>!F x).length≤c∧RdAt w' B a (its.filter fun x=>!F x)∧Below B w w'
theorem delete_on{w:World}{B g cap n fb tb:Nat}{its:List It}{F:It→Bool}(hB:B≤w.heap.size)(hI:ItsAt w B (.slice (some ⟨g,0,none⟩) n cap) its)(h:IRow w B g cap n its)(hn:n≤1000000)(hfb:fb≠g)(htb:tb≠g)
  (LKh:∀ y x,Only [g] w y→Calls prog 246 #[.agg #[.int .u64 x.key,x.vec.v,x.tag.v],.pointer (some ⟨fb,0,none⟩),.pointer (some ⟨tb,0,none⟩)] y fun e w'=>e=.returned (.bool (F x))∧Below y.heap.size y w') :
  Calls prog 245 #[.slice (some ⟨g,0,none⟩) n cap,.func (.func 246) #[] #[.pointer (some ⟨fb,0,none⟩),.pointer (some ⟨tb,0,none⟩)]] w (DelTo F its B w):=by
 have HI:=Ξ hI;have HR:=Ξ h;have HL:=Ξ h.len;have HC:Hid (n≤cap):=Ξ (by obtain ⟨p,c,e,h1,_⟩:=own_shape h;simp only [Value.slice.injEq] at e;omega);have LK:=Ξ LKh;have HN:=Ξ hn;have HBB:=Ξ hB;have HG:Hid (B≤g∧g<w.heap.size):=Ξ (World.ownsRow.lt h _ rfl);have IX:=Ξ (index_on h hn (fun y x hy=>LKh y x (((Ω [] w).below hy).mono (by simp))));unfold IxTo at IX;clear h LKh hn hB hI hfb htb;go_enter func245,ntmps245;go_wp2_with fail;refine IX.out.mono ?_;rintro _ w1 ⟨i,rfl,hb,hc⟩;have B1:=Ξ hb;clear hb IX;rcases hc with ⟨rfl,hall⟩|⟨j,rfl,hj,hlo,hat⟩
 ·have HA:=Ξ hall;clear hall;go_wp2_with fail;go_ret;have hf:(its.filter fun x=>!F x)=its:=List.filter_eq_self.2 fun x hx=>by rw [HA.out x hx];rfl
  refine ⟨some ⟨g,0,none⟩,cap,by rw [hf,HL.out];rfl,by rw [hf,HL.out];exact HC.out,by rw [hf];exact (HI.out.below B1.out).rd,B1.out.mono HBB.out⟩
 ·have HJ:=Ξ hj;have dj:decide ((j:Int) = -1)=false:=Λ (by omega);have dj':((j:Int) == -1)=false:=by simp<;>omega
  obtain ⟨x0,hx0⟩:∃ x,its[j]? = some x:=⟨_,List.getElem?_eq_getElem hj⟩;have J0:Hid (DlInv F its its j (j+1)):=Ξ ⟨by omega,rfl,by
   rw [filter_take _ hx0,hat x0 hx0];simp only [Bool.not_true,Bool.false_eq_true,if_false,List.append_nil];refine (List.filter_eq_self.2 fun x hx=>?_).symm;obtain ⟨k,hk,rfl⟩:=List.mem_iff_getElem.1 hx;have hk2:k<j:=by simp at hk;omega
   rw [List.getElem_take,hlo k _ hk2 (List.getElem?_eq_getElem (by omega))];rfl,fun k _=>rfl⟩
  have U0:Hid (IRow w1 B g cap n its∧Only [g] w w1):=Ξ ⟨HR.out.only ((Ω [] w).below B1.out) (by simp),((Ω [] w).below B1.out).mono (by simp)⟩;have ej:IntKind.i64.wrap ((j:Int)+1)=((j+1:Nat):Int):=w_inc _ (by have:=HN.out;have:=HL.out;omega);clear hlo hat hj hx0;go_wp2_with fail;go_loopw [5,6] (fun u v wr=>∃ i k:Nat,(u=.int .i64 (i:Int)∧v=.int .i64 (k:Int))∧Hid (k≤n)∧Hid (∃ cur,DlInv F its cur i k∧IRow wr B g cap n cur∧Only [g] w wr∧∀ x∈cur,x∈its)) (fun _ v _=>n-(intOf v).toNat)
  case atStart=>exact ⟨j,j+1,⟨rfl,by go_num⟩,Ξ (by have:=HJ.out;have:=HL.out;omega),Ξ ⟨its,J0.out,U0.out.1,U0.out.2,fun x hx=>hx⟩⟩
  case round=>
   obtain ⟨i,k,⟨rfl,rfl⟩,HK,hR⟩:=hrel;clear J0 U0;obtain ⟨cur,hd,hu,ho,hm⟩:=hR.out;have HD:=Ξ hd;have HU:=Ξ hu;have HO:=Ξ ho;have HM:=Ξ hm;clear hd hu ho hm hR;by_cases hk:k<n
   ·have d1:decide ((k:Int)<(n:Int))=true:=Γ (by omega);have d1':decide (k<n)=true:=Γ hk;have km:=hk;have e1:IntKind.i64.wrap ((k:Int)+1)=((k+1:Nat):Int):=w_inc _ (by have:=HN.out;omega);have e2:IntKind.i64.wrap ((i:Int)+1)=((i+1:Nat):Int):=w_inc _ (by have:=HN.out;have:=HD.out.ij;omega);have im:i<n:=by have:=HD.out.ij;omega
    obtain ⟨x,hx⟩:∃ x,its[k]? = some x:=⟨_,List.getElem?_eq_getElem (by rw [HL.out];exact hk)⟩;have HX:=Ξ hx;have hxc:cur[k]? = some x:=by rw [HD.out.rest k (Θ _)];exact hx
    have c0:wr.cell? ⟨g,k * 3,none⟩=some (.int .u64 x.key):=HU.out.cell hxc 0 (by omega);have c1:wr.cell? ⟨g,k * 3+1,none⟩=some x.vec.v:=HU.out.cell hxc 1 (by omega);have c2:wr.cell? ⟨g,k * 3+2,none⟩=some x.tag.v:=HU.out.cell hxc 2 (by omega);have R2:=Ξ (Φ wr #[.int .u64 x.key,x.vec.v,x.tag.v] tIt);have K2:Hid (Only [] wr (wr.alloc (.cells #[.int .u64 x.key,x.vec.v,x.tag.v] tIt))):=Ξ ((Ω [] wr).alloc _);have LK1:=Ξ (LK.out (wr.alloc (.cells #[.int .u64 x.key,x.vec.v,x.tag.v] tIt)) x (HO.out.trans K2.out (by simp)));have NG:Hid (g≠wr.heap.size):=Ξ (by have:=HG.out;have:=HO.out.size;omega);clear hx hk hxc;unfold Sl.v at c1 c2 LK1 R2 K2;go_upto_region 8 with fail;generalize wr.alloc (.cells #[.int .u64 x.key,.slice x.vec.a x.vec.xs.length x.vec.c,.slice x.tag.a x.tag.xs.length x.tag.c] tIt)=w2 at *;clear c0 c1 c2;have b0:=R2.out.c 0 (.int .u64 x.key);have b1:=R2.out.c 1 (.slice x.vec.a x.vec.xs.length x.vec.c);have b2:=R2.out.c 2 (.slice x.tag.a x.tag.xs.length x.tag.c);cases hF:F x with
    | true=>
     have HFX:=Ξ hF;rw [hF] at LK1;clear hF;go_wp2_with fail;refine LK1.out.mono ?_;rintro _ w3 ⟨rfl,hb⟩;have K3:=Ξ (K2.out.below hb);clear hb LK1 b0 b1 b2;go_wp2_with fail;go_roundw;case rel=>exact ⟨i,k+1,⟨rfl,by go_num⟩,Ξ (by omega),Ξ ⟨cur,HD.out.skip HX.out HFX.out,HU.out.only K3.out (by simp),HO.out.trans K3.out (by simp),HM.out⟩⟩
     case measure=>simp [intOf];omega
    | false=>
     have HFX:=Ξ hF;rw [hF] at LK1;clear hF;go_wp2_with fail;refine LK1.out.mono ?_;rintro _ w3 ⟨rfl,hb⟩;have K3:=Ξ (K2.out.below hb);have R3:=Ξ (R2.out.only ((Ω [] w2).below hb) (by simp));clear hb LK1 b0 b1 b2;have b0:=R3.out.c 0 (.int .u64 x.key);have b1:=R3.out.c 1 (.slice x.vec.a x.vec.xs.length x.vec.c);have b2:=R3.out.c 2 (.slice x.tag.a x.tag.xs.length x.tag.c);have U3:=Ξ (HU.out.only K3.out (by simp));obtain ⟨xi,hxi⟩:∃ y,cur[i]? = some y:=⟨_,List.getElem?_eq_getElem (by rw [HU.out.len];exact im)⟩;have g0:w3.cell? ⟨g,i * 3,none⟩=some (.int .u64 xi.key):=U3.out.cell hxi 0 (by omega);have g1:w3.cell? ⟨g,i * 3+1,none⟩=some xi.vec.v:=U3.out.cell hxi 1 (by omega);have g2:w3.cell? ⟨g,i * 3+2,none⟩=some xi.tag.v:=U3.out.cell hxi 2 (by omega);have f0:=U3.out.free (i * 3);have f1:=U3.out.free (i * 3+1);have f2:=U3.out.free (i * 3+2);have P:=Ξ (U3.out.put i x im);unfold Sl.v at P;clear hxi;go_wp2_with fail;go_roundw;case rel=>exact ⟨i+1,k+1,⟨by go_num,by go_num⟩,Ξ (by omega),Ξ ⟨_,HD.out.keep HX.out HFX.out,P.out.1,(HO.out.trans K3.out (by simp)).trans P.out.2 (by simp),fun y hy=>by
      rcases List.mem_or_eq_of_mem_set hy with h|h
      ·exact HM.out y h
      ·rw [h];exact List.mem_of_getElem? HX.out⟩⟩
     case measure=>simp [intOf];omega
   ·have d1:decide ((k:Int)<(n:Int))=false:=Λ (by omega);have d1':decide (k<n)=false:=Λ hk;have HKm:Hid (k=n):=Ξ (by have:=HK.out;omega);clear hk;have im:i<n:=by have:=HD.out.ij;have:=HKm.out;omega
    have im':i≤n:=(by omega);have icap:i≤cap:=by have:=HC.out;omega
    have ic:¬ cap=i:=by have:=HC.out;omega
    obtain ⟨rr,hrr⟩:∃ rr,n-i=rr:=⟨_,rfl⟩;have hz:=zeroIt_cells rr;have hcl:∀ ty,(Builtin.clear_ #[38] ty #[.slice (some ⟨g,i * 3,none⟩) rr (cap-i)]).run prog wr=.ok (.tuple #[]) (wr.setCells g (i * 3) (Builtin.zeroCells (Value.agg #[.int .u64 0,.slice none 0 0,.slice none 0 0]).cells rr).toList):=fun ty=>
     run_clear_cells rr wr _ tIt ty _ underlying38 zeroIt hz.2 g (i * 3) _ (by omega) (fun j hj=>by
      rw [hz.1] at hj;have hlen:(itL cur).length=n * 3:=by rw [itL_len,HU.out.len]
      rw [World.ownsRow.cellAt HU.out (i * 3+j) (by omega),List.getElem?_eq_getElem (by omega)];rfl) (fun j=>HU.out.free _)
    have PO:Hid (Only [g] w (wr.setCells g (i * 3) (Builtin.zeroCells (Value.agg #[.int .u64 0,.slice none 0 0,.slice none 0 0]).cells rr).toList)):=Ξ (only_setCells g _ _ HO.out);have PC:Hid (∀ j x,j<i→cur[j]? = some x→∀ q,q<3→(wr.setCells g (i * 3) (Builtin.zeroCells (Value.agg #[.int .u64 0,.slice none 0 0,.slice none 0 0]).cells rr).toList).cell? ⟨g,j * 3+q,none⟩=x.cells[q]?):=Ξ fun j x hj hx q hq=>by rw [World.cell?_setCells_out g _ (i * 3) wr ⟨g,j * 3+q,none⟩ (fun _ _=>.inl (by show j * 3+q<i * 3;omega))];exact HU.out.cell hx q hq
    generalize wr.setCells g (i * 3) (Builtin.zeroCells (Value.agg #[.int .u64 0,.slice none 0 0,.slice none 0 0]).cells rr).toList=w5 at *;clear hz;go_wp2_with fail;go_ret;have hf:cur.take i=its.filter fun x=>!F x:=by rw [HD.out.head,List.take_of_length_le (by rw [HKm.out,HL.out];exact Θ _)]
    have hlen:(its.filter fun x=>!F x).length=i:=by rw [←hf];simp;rw [HU.out.len];omega
    have hmem:∀ x∈its.filter fun x=>!F x,x∈its:=fun x hx=>(List.mem_filter.1 hx).1;have hgb:∀ x∈its,∀ b∈x.bs,b≠g:=fun x hx b hb e=>HI.out.ap x hx b hb (by simp [Value.ownBlock,e]);refine ⟨some ⟨g,0,none⟩,cap,by rw [hlen];rfl,by rw [hlen];exact icap,⟨.inr ⟨g,rfl,Nat.lt_of_lt_of_le HG.out.2 PO.out.size,HG.out.1,fun j x hx q hq=>?_,fun x hx b hb=>hgb x (hmem x hx) b hb⟩,fun x hx=>?_,fun x hx=>HI.out.ge x (hmem x hx)⟩,PO.out.toBelow HBB.out (by simpa using HG.out.1)⟩
    ·have hj:=(List.getElem?_eq_some_iff.1 hx).1;rw [←hf,List.getElem?_take] at hx;split at hx
     ·rename_i hji
      exact PC.out j x hji hx q hq
     ·cases hx
    ·have he:=HI.out.each x (hmem x hx);exact ⟨he.1.only PO.out fun b hb=>by simpa using hgb x (hmem x hx) b (List.mem_append_left _ hb),he.2.only PO.out fun b hb=>by simpa using hgb x (hmem x hx) b (List.mem_append_right _ hb)⟩
theorem index_nil(w:World)(fn:Value):Calls prog 175 #[.slice none 0 0,fn] w fun e w'=>e=.returned (.int .i64 (-1))∧w'=w:=by
 go_enter func175,ntmps175;go_wp2_with fail;go_loopw [8] (fun u wr=>u=.int .i64 0∧Hid (wr=w)) (fun _ _=>0)
 case atStart=>exact ⟨rfl,Ξ rfl⟩
 case round=>obtain ⟨rfl,hr⟩:=hrel;have hy9:=hr.out;clear hr;rename World=>y9;subst y9;go_wp2_with fail;go_ret;exact ⟨rfl,rfl⟩
theorem delete_nil(w:World)(fn:Value):Calls prog 245 #[.slice none 0 0,fn] w fun e w'=>e=.returned (.slice none 0 0)∧w'=w:=by go_enter func245,ntmps245;go_wp2_with fail;refine (index_nil _ _).mono ?_;rintro _ w1 ⟨rfl,hw1⟩;subst w1;go_wp2_with fail;go_ret;exact ⟨rfl,rfl⟩
theorem delete_any{w:World}{B fb tb:Nat}{v:Value}{its:List It}{F:It→Bool}(hB:B≤w.heap.size)(hI:ItsAt w B v its)(hn:its.length≤1000000)(hfb:fb<B)(htb:tb<B)
  (LKh:∀ G y x,Only G w y→(∀ b∈G,B≤b)→Calls prog 246 #[.agg #[.int .u64 x.key,x.vec.v,x.tag.v],.pointer (some ⟨fb,0,none⟩),.pointer (some ⟨tb,0,none⟩)] y fun e w'=>e=.returned (.bool (F x))∧Below y.heap.size y w') :
  Calls prog 245 #[v,.func (.func 246) #[] #[.pointer (some ⟨fb,0,none⟩),.pointer (some ⟨tb,0,none⟩)]] w (DelTo F its B w):=by
 have hI0:=hI;rcases hI.own.2 with ⟨rfl,h0⟩|⟨g,cap,cur,rfl,hb,hg,hc,hm,hcs,ht⟩
 ·have:its=[]:=List.length_eq_zero_iff.1 h0;subst this;refine (delete_nil w _).mono ?_;rintro e w' ⟨he,rfl⟩;exact ⟨none,0,he,Θ _,⟨.inl rfl,by simp,by simp⟩,Δ _ _⟩
 ·have hr:IRow w B g cap its.length its:=hI0.own;exact delete_on hB hI0 hr hn (by omega) (by omega) fun y x hy=>LKh [g] y x hy (by simpa using hb)
def keepR(lo hi:Int)(c:Rc):Bool:=!(decide (c.1<lo) || decide (hi<c.1))
def RangeTo(L:List Rc)(lo hi most:Int)(w:World)(e:Ending)(w':World):Prop:=∃ (a:Option Addr) (c:Nat) (its:List It),e=.returned (.tuple #[.slice a its.length c,.int .i64 0])∧RdAt w' w.heap.size a its∧its.map It.c=(L.filter (keepR lo hi)).take most.toNat∧Below w.heap.size w w'
theorem RdAt.take{w:World}{B:Nat}{a:Option Addr}{its:List It}(h:RdAt w B a its)(k:Nat):RdAt w B a (its.take k):=by
 refine ⟨?_,fun x hx=>h.each x (List.mem_of_mem_take hx),fun x hx=>h.ge x (List.mem_of_mem_take hx)⟩;rcases h.row with rfl|⟨g,e,hl,hb,hc,hx⟩
 ·exact .inl (by simp)
 ·exact .inr ⟨g,e,hl,hb,fun j x hj i hi=>hc j x (by rw [List.getElem?_take] at hj;split at hj;exact hj;cases hj) i hi,fun x hx'=>hx x (List.mem_of_mem_take hx')⟩
theorem map_filter_c(lo hi:Int)(its:List It):(its.filter fun x=>!outR lo hi x).map It.c=(its.map It.c).filter (keepR lo hi):=by rw [List.filter_map];rfl
theorem range_on{w:World}{B p ba bo:Nat}{D:PDB}(h:DbAt w B p ba bo D)(hs:Small D){n:Int}{o:PTx}(ho:findP n D.op=some o)(lo hi most:Int)(hm1 : -9223372036854775808≤most)(hm2:most≤9223372036854775807) :
  Calls prog 235 #[.pointer (some ⟨p,0,none⟩),.int .u64 n,.int .u64 lo,.int .u64 hi,.int .i64 most] w (fun e w'=>∃ zs:List Int,zs.Pairwise (· < ·)∧(∀ x,x∈zs↔x∈D.all.map (·.1)∨x∈o.wr.map (·.1))∧RangeTo (zs.filterMap fun k=>visC (seesR D o k)) lo hi most w e w'):=by
 obtain ⟨hom,rfl⟩:=findP_some ho;have O1:Only [] w ((w.alloc (.cells #[.int .u64 lo] 34)).alloc (.cells #[.int .u64 hi] 34)):=((Ω [] w).alloc _).alloc _;have R1:=Ξ ((Φ w #[.int .u64 lo] 34).only ((Ω [] _).alloc (.cells #[.int .u64 hi] 34)) (by simp));have R2:=Ξ (Φ (w.alloc (.cells #[.int .u64 lo] 34)) #[.int .u64 hi] 34);rw [show (w.alloc (.cells #[.int .u64 lo] 34)).heap.size=w.heap.size+1 by simp] at R2;have S1:Hid (((w.alloc (.cells #[.int .u64 lo] 34)).alloc (.cells #[.int .u64 hi] 34)).heap.size=w.heap.size+2):=Ξ (by simp);have HO:=Ξ O1;have HD:=Ξ (h.only O1 (by simp));have HS:=Ξ hs;have HM:=Ξ hom;have HFi:=Ξ ho;have HMo:=Ξ (Ψ hm1 hm2);clear h hs ho hom O1 hm1 hm2;go_enter func235,ntmps235;go_wp2_with fail;generalize (w.alloc (.cells #[.int .u64 lo] 34)).alloc (.cells #[.int .u64 hi] 34)=w1 at *;refine (find_yes HD.out HFi.out).mono ?_;rintro _ w2 ⟨rfl,hw⟩;subst w2;have L:=Ξ (seen_on HD.out HS.out HM.out);unfold ListTo at L;go_wp2_with fail;refine L.out.mono ?_;rintro _ w3 ⟨v,its,zs,rfl,hi1,hc,hz,hmem,hil,hb⟩;have B3:=Ξ hb;have II:=Ξ hi1;have CC:=Ξ hc;have ZZ:=Ξ (Ψ hz hmem);have IL:=Ξ hil;clear hil;have DL:=Ξ (delete_any (fb:=w.heap.size) (tb:=w.heap.size+1) (F:=outR lo hi) B3.out.size II.out IL.out (by have:=S1.out;omega) (by have:=S1.out;omega) (fun G y x hy hG=>range1_on ((R1.out.only ((Ω [] w1).below B3.out) (by simp)).only hy (fun hm=>by have:=hG _ hm;have:=S1.out;omega)) ((R2.out.only ((Ω [] w1).below B3.out) (by simp)).only hy (fun hm=>by have:=hG _ hm;have:=S1.out;omega)) x));unfold DelTo at DL;obtain ⟨p3,n3,c3,rfl⟩:∃ p n c,v=.slice p n c:=by obtain ⟨a,b,e,_⟩:=own_shape hi1.own;exact ⟨_,_,_,e⟩
 clear hi1 hc hz hmem hb L;go_wp2_with fail;refine DL.out.mono ?_;rintro _ w4 ⟨a,c,rfl,hlc,hrd,hb⟩;have B4:=Ξ (B3.out.trans hb);have RD:=Ξ hrd;have LC:=Ξ hlc;have MC:Hid ((its.filter fun x=>!outR lo hi x).map It.c=(zs.filterMap fun k=>visC (seesR D o k)).filter (keepR lo hi)):=Ξ (by rw [map_filter_c,CC.out]);generalize (its.filter fun x=>!outR lo hi x)=L2 at *;clear hb hrd hlc DL;obtain ⟨m,hm⟩:∃ m,L2.length=m:=⟨_,rfl⟩;have LM:=Ξ hm;rw [hm] at LC ⊢;clear hm;obtain ⟨k,hk⟩:∃ k:Nat,min m most.toNat=k:=⟨_,rfl⟩;have HKK:=Ξ hk;have hmin:min (m:Int) (max 0 most)=(k:Int):=by omega
 have kc:k≤c:=by have:=LC.out;omega
 clear hk;go_wp2_with fail;go_ret2;refine ⟨zs,ZZ.out.1,ZZ.out.2,a,c,L2.take k,?_,?_,?_,?_⟩
 ·have:(L2.take k).length=k:=by simp;have:=LM.out;have:=HKK.out;omega
  rw [this];rfl
 ·have h9:=RD.out.take k;exact ⟨by
   rcases h9.row with h|⟨g,e,h1,h2,h3⟩
   ·exact .inl h
   ·exact .inr ⟨g,e,h1,by have:=S1.out;omega,h3⟩,h9.each,fun x hx b hb=>by have:=h9.ge x hx b hb;have:=S1.out;omega⟩
 ·rw [List.map_take,MC.out];have hl:((zs.filterMap fun k=>visC (seesR D o k)).filter (keepR lo hi)).length=m:=by rw [←MC.out,List.length_map,LM.out]
  rw [←HKK.out,←hl];rw [List.take_eq_take_iff];omega
 ·exact (HO.out.toBelow (Θ _) (by simp)).trans (B4.out.mono (by have:=S1.out;omega))
def RefTo(v:Value)(w:World)(e:Ending)(w':World):Prop:=e=.returned v∧Below w.heap.size w w'
theorem get_no{w:World}{B p ba bo:Nat}{D:PDB}(h:DbAt w B p ba bo D){n:Int}(ho:findP n D.op=none)(key:Int):Calls prog 232 #[.pointer (some ⟨p,0,none⟩),.int .u64 n,.int .u64 key] w (RefTo (.tuple #[.agg (itemV none),.int .i64 12]) w):=by
 have TH:=Ξ (find_no (h.only ((Ω [] w).alloc (.cells #[.int .u64 0,.slice none 0 0,.slice none 0 0] tIt)) (by simp)) ho);have R0:=Ξ (Φ w #[.int .u64 0,.slice none 0 0,.slice none 0 0] tIt);clear h ho;go_enter func232,ntmps232;go_wp2_with fail;refine TH.out.mono ?_;rintro _ w1 ⟨rfl,hw⟩;subst w1;have B0:Hid (Below w.heap.size w (w.alloc (.cells #[.int .u64 0,.slice none 0 0,.slice none 0 0] tIt))):=Ξ ((Δ _ _).alloc (Θ _) _);have fz:=R0.out.free 0;have fz1:=R0.out.free 1;have fz2:=R0.out.free 2;have c0:=R0.out.cell 0;have c1:=R0.out.cell 1;have c2:=R0.out.cell 2;simp only [List.getElem?_toArray,List.getElem?_cons_zero,List.getElem?_cons_succ] at c0 c1 c2;have R1:=Ξ (((R0.out.set 0 (.int .u64 0)).set 1 (.slice none 0 0)).set 2 (.slice none 0 0));generalize w.alloc (.cells #[.int .u64 0,.slice none 0 0,.slice none 0 0] tIt)=w1 at *;go_wp2_with fail;refine bodyPost_ret (results_item_tmp rfl _ _ w.heap.size (itemV none) rfl rfl ?_) rfl ?_
 ·exact R1.out
 ·exact ⟨rfl,((((Ω [w.heap.size] w1).setCell (by simp) _).setCell (by simp) _).setCell (by simp) _ |>.toBelow B0.out.size (by simp)) |> B0.out.trans⟩
theorem range_no{w:World}{B p ba bo:Nat}{D:PDB}(h:DbAt w B p ba bo D){n:Int}(ho:findP n D.op=none)(a b c:Int):Calls prog 235 #[.pointer (some ⟨p,0,none⟩),.int .u64 n,.int .u64 a,.int .u64 b,.int .i64 c] w (RefTo (.tuple #[.slice none 0 0,.int .i64 12]) w):=by have TH:Hid (∀ y,Below w.heap.size w y→_):=Ξ fun y k=>find_no (h.only ((Ω [] w).below k) (by simp)) ho;clear h ho;go_enter func235,ntmps235;go_wp2_with fail;refine (TH.out _ (((Δ _ _).alloc (Θ _) _).alloc (by simp) _)).mono ?_;rintro _ w1 ⟨rfl,hw⟩;subst w1;go_wp2_with fail;go_ret2;exact ⟨rfl,((Δ _ _).alloc (Θ _) _).alloc (by simp) _⟩
theorem knn_no{w:World}{B p ba bo:Nat}{D:PDB}(h:DbAt w B p ba bo D){n:Int}(ho:findP n D.op=none)(k:Int)(q:Value):Calls prog 233 #[.pointer (some ⟨p,0,none⟩),.int .u64 n,q,.int .i64 k] w fun e w'=>e=.returned (.tuple #[.slice none 0 0,.int .i64 12])∧w'=w:=by have TH:=Ξ (find_no h ho);clear h ho;go_enter func233,ntmps233;go_wp2_with fail;refine TH.out.mono ?_;rintro _ w1 ⟨rfl,hw⟩;subst w1;go_wp2_with fail;go_ret2;exact ⟨rfl,rfl⟩
theorem put_no{w:World}{B p ba bo:Nat}{D:PDB}(h:DbAt w B p ba bo D){n:Int}(ho:findP n D.op=none)(key:Int)(a b:Value):Calls prog 234 #[.pointer (some ⟨p,0,none⟩),.int .u64 n,.agg #[.int .u64 key,a,b]] w (RefTo (.int .i64 12) w):=by have TH:Hid (∀ y,Below w.heap.size w y→_):=Ξ fun y k=>find_no (h.only ((Ω [] w).below k) (by simp)) ho;clear h ho;go_enter func234,ntmps234;go_wp2_with fail;refine (TH.out _ ((Δ _ _).alloc (Θ _) _)).mono ?_;rintro _ w1 ⟨rfl,hw⟩;subst w1;go_wp2_with fail;go_ret;exact ⟨rfl,(Δ _ _).alloc (Θ _) _⟩
theorem delete_no{w:World}{B p ba bo:Nat}{D:PDB}(h:DbAt w B p ba bo D){n:Int}(ho:findP n D.op=none)(key:Int):Calls prog 230 #[.pointer (some ⟨p,0,none⟩),.int .u64 n,.int .u64 key] w fun e w'=>e=.returned (.int .i64 12)∧w'=w:=by have TH:=Ξ (find_no h ho);clear h ho;go_enter func230,ntmps230;go_wp2_with fail;refine TH.out.mono ?_;rintro _ w1 ⟨rfl,hw⟩;subst w1;go_wp2_with fail;go_ret;exact ⟨rfl,rfl⟩
theorem commit_no{w:World}{B p ba bo:Nat}{D:PDB}(h:DbAt w B p ba bo D){n:Int}(ho:findP n D.op=none):Calls prog 229 #[.pointer (some ⟨p,0,none⟩),.int .u64 n] w fun e w'=>e=.returned (.int .i64 12)∧w'=w:=by have TH:=Ξ (find_no h ho);clear h ho;go_enter func229,ntmps229;go_wp2_with fail;refine TH.out.mono ?_;rintro _ w1 ⟨rfl,hw⟩;subst w1;go_wp2_with fail;go_ret;exact ⟨rfl,rfl⟩
theorem abort_no{w:World}{B p ba bo:Nat}{D:PDB}(h:DbAt w B p ba bo D){n:Int}(ho:findP n D.op=none):Calls prog 227 #[.pointer (some ⟨p,0,none⟩),.int .u64 n] w fun e w'=>e=.returned (.int .i64 12)∧w'=w:=by have TH:=Ξ (find_no h ho);clear h ho;go_enter func227,ntmps227;go_wp2_with fail;refine TH.out.mono ?_;rintro _ w1 ⟨rfl,hw⟩;subst w1;go_wp2_with fail;go_ret;exact ⟨rfl,rfl⟩
theorem item_long{key:Int}{vec tag:Sl}{w:World}(h1:0<vec.xs.length)(h2:vec.xs.length≤4096)(h3:1024<tag.xs.length) :
  Calls prog 112 #[.agg #[.int .u64 key,vec.v,tag.v]] w fun e w'=>e=.returned (.int .i64 3)∧Below w.heap.size w w':=by
 obtain ⟨va,vc,xs⟩:=vec;obtain ⟨ta,tc,ys⟩:=tag;unfold Sl.v;simp only at h1 h2 h3;obtain ⟨n,hn⟩:∃ n,xs.length=n:=⟨_,rfl⟩;obtain ⟨m,hm⟩:∃ m,ys.length=m:=⟨_,rfl⟩;simp only [hn,hm] at h1 h2 h3 ⊢;have d1:((n:Int) == 0)=false:=by simpa using (show (n:Int)≠0 by omega)
 have d1':decide ((n:Int)=0)=false:=Λ (by omega);have d2:decide ((4096:Int)<(n:Int))=false:=Λ (by omega);have d2':decide (4096<n)=false:=Λ (by omega);have d3:decide ((1024:Int)<(m:Int))=true:=Γ (by omega);have d3':decide (1024<m)=true:=Γ (by omega);have d4:((n == 0)=false):=by simpa using (show n≠0 by omega)
 have d5:decide (n=0)=false:=Λ (by omega);clear hn hm;go_enter func112,ntmps112;go_wp2_with fail;go_ret;exact ⟨rfl,(Δ _ _).alloc (Θ _) _⟩
theorem put_bad{w:World}{B p ba bo:Nat}{D:PDB}{n key:Int}{o:PTx}{va ta:Sl}(h:DbAt w B p ba bo D)(ho:findP n D.op=some o)(hlen:va.xs.length≤1000000)(c:Int)(hd:((va.xs.length:Int)≠D.dim∧c=9)∨((va.xs.length:Int)=D.dim∧1024<ta.xs.length∧c=3)) :
  Calls prog 234 #[.pointer (some ⟨p,0,none⟩),.int .u64 n,.agg #[.int .u64 key,va.v,ta.v]] w (RefTo (.int .i64 c) w):=by
 obtain ⟨hom,rfl⟩:=findP_some ho;have FI:Hid (∀ y,Only [] w y→Calls prog 237 #[.pointer (some ⟨p,0,none⟩),.int .u64 o.n] y fun e w'=>e=.returned (.tuple #[.pointer (some ⟨o.bt,0,none⟩),.int .i64 0])∧w'=y):=Ξ fun y k=>find_yes (h.only k (by simp)) ho;have C0:Hid (∀ y,Only [] w y→y.cell? ⟨p,0,none⟩=some (.int .i64 D.dim)):=Ξ fun y k=>(h.row.only k (by simp)).cell 0;have hdim:=h.fine.dim;rcases hd with ⟨hd,rfl⟩|⟨hd,ht,rfl⟩
 ·obtain ⟨a1,n1,c1,hv1⟩:∃ a n c,va.v=.slice a n c:=⟨_,_,_,rfl⟩;obtain ⟨a2,n2,c2,hv2⟩:∃ a n c,ta.v=.slice a n c:=⟨_,_,_,rfl⟩;have hn1:n1=va.xs.length:=by unfold Sl.v at hv1;simp only [Value.slice.injEq] at hv1;exact hv1.2.1.symm
  rw [hv1,hv2];rw [←hn1] at hd;obtain ⟨dim,hdm⟩:∃ dim,D.dim=dim:=⟨_,rfl⟩;rw [hdm] at hd C0;have q1:((n1:Int) == dim)=false:=by simpa using hd
  have q2:decide ((n1:Int)=dim)=false:=Λ hd;have q3:((n1:Int) != dim)=true:=by simpa using hd
  clear h ho hom hv1 hv2 hdim hlen hn1 hd hdm;have R1:Hid (Row (w.alloc (.cells #[.int .u64 key,.slice a1 n1 c1,.slice a2 n2 c2] tIt)) w.heap.size #[.int .u64 key,.slice a1 n1 c1,.slice a2 n2 c2] tIt):=Ξ (Φ w _ _);have K1:Hid (Only [] w (w.alloc (.cells #[.int .u64 key,.slice a1 n1 c1,.slice a2 n2 c2] tIt))):=Ξ ((Ω [] w).alloc _);go_enter func234,ntmps234;go_wp2_with fail;refine (FI.out _ K1.out).mono ?_;rintro _ w2 ⟨rfl,hw⟩;subst w2;generalize w.alloc (.cells #[.int .u64 key,.slice a1 n1 c1,.slice a2 n2 c2] tIt)=w1 at *;have e1:=R1.out.c 1 (.slice a1 n1 c1);have e2:=C0.out w1 K1.out;go_wp2_with fail;go_quiet (fail)
  go_wp2_with fail;go_ret;exact ⟨rfl,(K1.out.drewN _).toBelow (Θ _) (by simp)⟩
 ·have IM:Hid (∀ y:World,Calls prog 112 #[.agg #[.int .u64 key,va.v,ta.v]] y fun e w'=>e=.returned (.int .i64 3)∧Below y.heap.size y w'):=Ξ fun y=>item_long (by omega) (by omega) ht;obtain ⟨a1,n1,c1,hv1⟩:∃ a n c,va.v=.slice a n c:=⟨_,_,_,rfl⟩;obtain ⟨a2,n2,c2,hv2⟩:∃ a n c,ta.v=.slice a n c:=⟨_,_,_,rfl⟩;have hn1:n1=va.xs.length:=by unfold Sl.v at hv1;simp only [Value.slice.injEq] at hv1;exact hv1.2.1.symm
  rw [hv1,hv2] at IM ⊢;rw [←hn1] at hd;obtain ⟨dim,hdm⟩:∃ dim,D.dim=dim:=⟨_,rfl⟩;rw [hdm] at hd C0;subst hd;clear h ho hom hv1 hv2 hdim hlen hn1 hdm ht;have R1:Hid (Row (w.alloc (.cells #[.int .u64 key,.slice a1 n1 c1,.slice a2 n2 c2] tIt)) w.heap.size #[.int .u64 key,.slice a1 n1 c1,.slice a2 n2 c2] tIt):=Ξ (Φ w _ _);have K1:Hid (Only [] w (w.alloc (.cells #[.int .u64 key,.slice a1 n1 c1,.slice a2 n2 c2] tIt))):=Ξ ((Ω [] w).alloc _);go_enter func234,ntmps234;go_wp2_with fail;refine (FI.out _ K1.out).mono ?_;rintro _ w2 ⟨rfl,hw⟩;subst w2;generalize w.alloc (.cells #[.int .u64 key,.slice a1 n1 c1,.slice a2 n2 c2] tIt)=w1 at *;have e1:=R1.out.c 1 (.slice a1 n1 c1);have e2:=C0.out w1 K1.out;go_wp2_with fail;go_quiet (fail)
  have K2:=Ξ (K1.out.drewN nq);have R2:Hid (Row (w1.drewN nq) w.heap.size #[.int .u64 key,.slice a1 n1 c1,.slice a2 n2 c2] tIt):=Ξ (R1.out.only ((Ω [] _).drewN nq) (by simp));clear e1 e2 R1 K1 FI;generalize w1.drewN nq=w2 at *;have e0:=R2.out.cell 0;have e1:=R2.out.cell 1;have e2:=R2.out.cell 2;simp only [List.getElem?_toArray,List.getElem?_cons_zero,List.getElem?_cons_succ] at e0 e1 e2;go_wp2_with fail;refine (IM.out _).mono ?_;rintro _ w3 ⟨rfl,hb⟩;have K3:=Ξ (K2.out.below hb);clear hb e0 e1 e2;go_wp2_with fail;go_ret;exact ⟨rfl,K3.out.toBelow (Θ _) (by simp)⟩
theorem begin_full{w:World}{B p ba bo:Nat}{D:PDB}(h:DbAt w B p ba bo D)(hl:8≤D.op.length)(hl2:D.op.length≤1000) :
  Calls prog 228 #[.pointer (some ⟨p,0,none⟩)] w fun e w'=>e=.returned (.tuple #[.int .u64 0,.int .i64 5])∧w'=w:=by
 have c4:=h.row.c 4 (.map (some bo));have TH:=Ξ (there_on h.row);have HH:=Ξ h.om;have hlen:(8:Int)≤((pxL D.op).length:Int):=by simp [pxL];omega
 have hlen2:¬ ((pxL D.op).length:Int)<8:=by omega
 clear h;go_enter func228,ntmps228;go_wp2_with fail;refine TH.out.mono ?_;rintro _ w1 ⟨rfl,hw⟩;subst w1;go_wp2_with (at_len;refine wpList_len_at _ rfl (.tmp 12) tMpx rfl 34 280 .u64 underlying106 bo (pxL D.op) rfl HH.out ?_);go_ret2;exact ⟨rfl,rfl⟩
def DbTo(v:Value)(B p:Nat)(D':PDB)(F H:List Nat)(w:World)(e:Ending)(w':World):Prop:=∃ F' H',e=.returned v∧DbF w' B p D' F' H'∧Only F w w'∧Kept F F' w∧Kept H H' w
theorem abort_on{w:World}{B p:Nat}{D:PDB}{F H:List Nat}(h:DbF w B p D F H){n:Int}{o:PTx}(ho:findP n D.op=some o) :
  Calls prog 227 #[.pointer (some ⟨p,0,none⟩),.int .u64 n] w (DbTo (.int .i64 0) B p (shutP D n) F H w):=by
 obtain ⟨ba,bo,h,rfl,rfl⟩:=h;have FI:=Ξ (find_yes h ho);have c4:=h.row.c 4 (.map (some bo));have HH:=Ξ h;clear h ho;go_enter func227,ntmps227;go_wp2_with fail;refine FI.out.mono ?_;rintro _ w1 ⟨rfl,hw⟩;subst w1;go_wp2_with (at_delete;refine wpList_delete_at _ rfl (.tmp 18) (.tmp 19) tMpx 34 rfl 280 .u64 underlying106 underlying34 bo (pxL D.op) rfl HH.out.om n rfl ?_;intro w2 hm2 ho2 hs2);have N:=Ξ (HH.out.shut n ho2 hm2);have O2:=Ξ ho2;clear hm2 ho2 hs2;go_wp2_with fail;go_ret;exact ⟨_,_,rfl,⟨ba,bo,N.out.1,rfl,rfl⟩,O2.out.mono (by intro i hi;simp at hi;subst hi;exact .inl (by simp [PDB.own])),fun b hb=>.inl (N.out.2.1 b hb),fun b hb=>.inl (N.out.2.2 b hb)⟩
end Go.Proofs.YtcgmgdjeamidlaaGreat
namespace Go.Proofs.YtcgmgdjeamidlaaGreat
set_option maxRecDepth 100000
set_option maxHeartbeats 16000000
open Go.RowKit Go.ChangeShapes Go.WideShapes Go.ChangeAt Go.Proofs.Tryz
open Go.ChangeMaps (setBlock)
set_option linter.unusedVariables false
set_option linter.unusedSimpArgs false
def goneV:Ver:=⟨0,true,0,Sl.no,Sl.no⟩
theorem delete_no_key{w:World}{B p ba bo:Nat}{D:PDB}(h:DbAt w B p ba bo D)(hs:Small D){n key:Int}{o:PTx}(ho:findP n D.op=some o)(hv:visC (seesR D o key)=none) :
  Calls prog 230 #[.pointer (some ⟨p,0,none⟩),.int .u64 n,.int .u64 key] w (RefTo (.int .i64 7) w):=by
 obtain ⟨hom,rfl⟩:=findP_some ho;have FI:=Ξ (find_yes h ho);have SE:=Ξ (sees_on h hom key (by have:=hs.vers key;omega));unfold AsOfTo at SE;obtain ⟨q,b1,m1,d1,b2,m2,d2,hit⟩:=itemV_shape (seesR D o key);rw [visC_none hv,hit] at SE;clear h hs ho hom hv hit;go_enter func230,ntmps230;go_wp2_with fail;refine FI.out.mono ?_;rintro _ w1 ⟨rfl,hw⟩;subst w1;go_wp2_with fail;refine SE.out.mono ?_;rintro _ w1 ⟨rfl,hb⟩;have B1:=Ξ hb;clear hb SE FI;go_wp2_with fail;go_ret;exact ⟨rfl,B1.out.alloc B1.out.size _⟩
theorem delete_key{w:World}{B p:Nat}{D:PDB}{F H:List Nat}(h:DbF w B p D F H)(hB:B≤w.heap.size)(hs:Small D){n key:Int}{o:PTx}(ho:findP n D.op=some o){c:Rc}(hv:visC (seesR D o key)=some c) :
  Calls prog 230 #[.pointer (some ⟨p,0,none⟩),.int .u64 n,.int .u64 key] w (DbTo (.int .i64 0) B p (wroteP D n key goneV) F H w):=by
 obtain ⟨ba,bo,h,rfl,rfl⟩:=h;obtain ⟨hom,rfl⟩:=findP_some ho;have FI:=Ξ (find_yes h ho);have SE:=Ξ (sees_on h hom key (by have:=hs.vers key;omega));unfold AsOfTo at SE;obtain ⟨v,hrv,hg,_⟩:=visC_some hv;rw [show itemV (seesR D o key)=#[.int .u64 v.key,v.vec.v,v.tag.v] by rw [hrv];rfl,show okV (seesR D o key)=true by rw [hrv];simp [okV,hg]] at SE;have HH:=Ξ h;have HM:=Ξ hom;have HBB:=Ξ hB;clear h hs ho hom hv hrv hg hB;unfold Sl.v at SE;go_enter func230,ntmps230;go_wp2_with fail;refine FI.out.mono ?_;rintro _ w1 ⟨rfl,hw⟩;subst w1;go_wp2_with fail;refine SE.out.mono ?_;rintro _ w1 ⟨rfl,hb⟩;have K1:Hid (Only [] w (w1.alloc (.cells #[.int .u64 v.key,.slice v.vec.a v.vec.xs.length v.vec.c,.slice v.tag.a v.tag.xs.length v.tag.c] tIt))):=Ξ (((Ω [] w).below hb).alloc _);clear hb SE FI;go_upto_region 7 with fail;generalize w1.alloc (.cells #[.int .u64 v.key,.slice v.vec.a v.vec.xs.length v.vec.c,.slice v.tag.a v.tag.xs.length v.tag.c] tIt)=w2 at *;have t1:=((HH.out.oa o HM.out).1.only K1.out (by simp)).c 1 (.map (some o.bm));have OM:=Ξ ((HH.out.oa o HM.out).2.only K1.out (by simp));go_wp2_with (at_mapUpdate;refine wpList_update_at _ rfl (.tmp 32) (.tmp 33) (.tmp 34) tMvr rfl 34 tVr .u64 underlying283 underlying34 o.bm (wrL o.wr) rfl OM.out key (.agg #[.int .u64 0,.bool true,.int .u64 0,.slice none 0 0,.slice none 0 0]) rfl rfl ?_;intro w3 hm3 ho3 hs3);have M3:=Ξ hm3;have O3:=Ξ ho3;clear hm3 ho3 hs3 t1;go_wp2_with fail;go_ret;have hm:=M3.out;have ev:(Value.agg #[.int .u64 0,.bool true,.int .u64 0,.slice none 0 0,.slice none 0 0])=goneV.val:=rfl;rw [ev,up_wrL] at hm;obtain ⟨r1,r2⟩:=(HH.out.only K1.out (by simp)).wrote (k:=key) (v:=goneV) HM.out O3.out hm ⟨SlAt.no _ _,SlAt.no _ _⟩ (fun b hb=>by simp [Ver.bs,goneV,Sl.bs,Sl.no] at hb) (fun b hb=>by simp [Ver.bs,goneV,Sl.bs,Sl.no] at hb);refine ⟨_,_,rfl,⟨ba,bo,r1,rfl,rfl⟩,(K1.out.mono (by simp)).trans O3.out (by intro b hb;simp at hb;subst hb;exact .inl (by simp [PDB.own,(mem_pxB HM.out).2])),fun b hb=>.inl (by rw [wroteP_own] at hb;exact hb),fun b hb=>?_⟩;rcases r2 b hb with hb|hb
 ·exact .inl hb
 ·simp [Ver.bs,goneV,Sl.bs,Sl.no] at hb
end Go.Proofs.YtcgmgdjeamidlaaGreat
namespace Go.Proofs.YtcgmgdjeamidlaaGreat
set_option maxRecDepth 100000
set_option maxHeartbeats 16000000
open Go.RowKit Go.ChangeShapes Go.WideShapes Go.ChangeAt Go.Proofs.Tryz
open Go.ChangeMaps (setBlock)
open Go.MapKept (Stamped)
set_option linter.unusedVariables false
set_option linter.unusedSimpArgs false
theorem modify_filter{α:Type}(p:α→Bool)(f:α→α):∀ (l:List α) (i:Nat),(∀ e,l[i]? = some e→p e=false∧p (f e)=false)→(l.modify i f).filter p=l.filter p
 | [],i,h=>by simp
 | a :: l,0,h=>by obtain ⟨h1,h2⟩:=h a rfl;simp [h1,h2]
 | a :: l,i+1,h=>by simp only [List.modify_succ_cons,List.filter_cons,modify_filter p f l i (fun e he=>h e (by simpa using he))]
theorem Rng.updated{w:World}{b r:Nat}{q:IntKind}{L left:List (Int×Value)}{es:Array MapEntry}{clock:Nat}(h:Rng w b r q L left)(hb:w.heap[b]? = some (.map es clock))(hs:Stamped es clock)(hL:KVs q es L){k:Int}(v:Value)(hk:∃ u,(k,u)∈L)(hl:∀ x∈left,x.1≠k)(hne:r≠b) :
  Rng (setBlock w b (upObj es clock q k v L)) b r q (up k v L) left:=by
 obtain ⟨es0,clock0,since,seen,c0,h1,h2,h3,h4,h5,h6,h7,h8⟩:=h;rw [hb] at h1;cases h1;cases hi:ix k L 0 with
 | none=>
  obtain ⟨u,hu⟩:=hk;exact absurd rfl ((ix_none hi).2 _ hu)
 | some pr=>
  obtain ⟨i,u⟩:=pr;obtain ⟨es',clock',ho,hs',hL'⟩:=upd_facts (es:=es) (clock:=clock) (q:=q) (L:=L) hs hL k v;have ho2:upObj es clock q k v L=.map (es.modify i fun e=>{ e with key:=.int q k,val:=v }) clock:=by unfold upObj;rw [hi]
  rw [ho2] at ho;cases ho;have hlt:b<w.heap.size:=(Array.getElem?_eq_some_iff.1 hb).1;have hij:=(ix_some hi).2.1;rw [Nat.sub_zero] at hij;obtain ⟨e0,he0,hk0,hv0⟩:=kvs_get hL hij;have hseen:seen.contains e0.born=true:=by
   cases hc:seen.contains e0.born with
   | true=>rfl
   | false=>
    have hm:e0∈(leftOf es seen).toList:=by simp [leftOf];exact ⟨Array.mem_of_getElem? he0,by simpa using hc⟩
    have hm2:(e0.key,e0.val)∈(leftOf es seen).toList.map (fun e=>(e.key,e.val)):=List.mem_map.2 ⟨e0,hm,rfl⟩;rw [h8] at hm2;obtain ⟨x,hx,hxe⟩:=List.mem_map.1 hm2;simp only [Prod.mk.injEq] at hxe;rw [hk0] at hxe;have:=hl x hx;simp at hxe;exact absurd hxe.1 this
  have hfil:(leftOf (es.modify i fun e=>{ e with key:=.int q k,val:=v }) seen).toList=(leftOf es seen).toList:=by
   simp only [leftOf,Array.toList_filter,Array.toList_modify];refine modify_filter _ _ _ _ fun e he=>?_;have:e=e0:=by rw [Array.getElem?_toList,he0] at he;cases he;rfl
   subst this;simp only [hseen,Bool.not_true,and_self]
  refine ⟨_,clock,since,seen,c0,?_,hs',hL',?_,?_,h6,h7,by rw [hfil];exact h8⟩
  ·rw [ho2];simp only [setBlock];rw [Array.getElem?_setIfInBounds_self_of_lt hlt]
  ·rw [turned_only.1 r hne];exact h4
  ·intro x hx;rw [Array.toList_modify] at hx;obtain ⟨j,hj⟩:=List.mem_iff_getElem?.1 hx;rw [List.getElem?_modify] at hj;cases hy:es.toList[j]? with
   | none=>rw [hy] at hj;simp at hj
   | some y=>
    rw [hy] at hj;have hyb:=h5 y (List.mem_of_getElem? hy);simp only [Option.map_eq_map,Option.map_some,Option.some.injEq] at hj;subst hj;split
    ·exact hyb
    ·exact hyb
def CloneVTo(vs:List Ver)(w:World)(e:Ending)(w':World):Prop:=∃ V2:Vs,e=.returned V2.v∧V2.vs=vs∧VsAt w' V2∧(∀ ad,V2.a=some ad→w.heap.size≤ad.block)∧Below w.heap.size w w'
theorem clone_vs{V:Vs}{w:World}(h:VsAt w V)(hl:V.vs.length≤1000000):Calls prog 247 #[V.v] w (CloneVTo V.vs w):=by
 rcases h.src with ⟨hv,h0,hx⟩|⟨ad,c,hv,hlen,hc⟩
 ·have hvs:V.vs=[]:=List.length_eq_zero_iff.1 h0;rw [hv,hvs];clear h hv h0 hx;have qT:∀ w:World,(binOp .eql tVrs (.slice none 0 0) (.slice none 0 0)).run prog w=.ok (.bool true) w:=fun w=>by kernel_rfl
  go_enter func247,ntmps247;go_wp2_with fail;go_ret;exact ⟨Vs.no,rfl,rfl,VsAt.no _,by simp [Vs.no],Δ _ _⟩
 ·obtain ⟨i0,hi,hz0,hz1,hz2⟩:=info_parts infoVer;have hs:=Ξ h.src;have HE:=Ξ h.each;have HL:=Ξ hl;rw [hv] at hs ⊢;generalize V.vs=vs at *;clear h hv hc;obtain ⟨m,hm⟩:∃ m,vs.length=m:=⟨_,rfl⟩;have HM:=Ξ hm;rw [hm] at hs ⊢;clear hm hlen hl;have qT:∀ w:World,(binOp .eql tVrs (.slice (some ad) m c) (.slice none 0 0)).run prog w=.ok (.bool false) w:=fun w=>by kernel_rfl
  have EM:Hid (World.ownsRow (w.alloc (.cells #[] tVr)) w.heap.size tVr 5 (.slice (some ⟨w.heap.size,0,none⟩) 0 0) 0 []):=Ξ (World.ownsRow_lit w #[] 0 (Θ _) (by simp) rfl);go_enter func247,ntmps247;go_wp2_with (at_builtin;refine wpList_append_src rfl (.tmp 5) (.tmp 6) tVrs rfl w.heap.size tVr i0 _ 5 72 underlying286 hi hz0 hz1 hz2 rfl (by decide) _ 0 [] rfl EM.out _ m (verL vs) rfl (hs.out.below ((Δ _ _).alloc (Θ _) _)) (by intro u hu;obtain ⟨x,hx,hu⟩:=List.mem_flatMap.1 hu;simp [Ver.cells] at hu;rcases hu with rfl|rfl|rfl|rfl|rfl<;>simp [Value.oneCell',Sl.v]) (by have:=HM.out;have:=HL.out;unfold maxLen;omega) (by have:=HM.out;have:=HL.out;omega) (by simp) ?_;intro v' w1 hown' hgrow);have BB:Hid (Below w.heap.size w w1):=Ξ (((Δ _ _).alloc (Θ _) _).grown hgrow (by simp) (fun k hk=>by simp [Act.eval,Value.ownBlock] at hk;omega));rw [Nat.zero_add,List.nil_append] at hown';obtain ⟨V2,e1,e2,e3,e4⟩:=Vs.of_own hown' HM.out (fun u hu=>(HE.out u hu).only ((Ω [] w).below BB.out) (by simp));have N:Hid (CloneVTo vs w (.returned v') w1):=Ξ ⟨V2,by rw [e1],e2,e3,e4,BB.out⟩;clear hown' hgrow e1 e2 e3 e4;obtain ⟨pa,pn,pc,rfl⟩:∃ a n c,v'=.slice a n c:=by obtain ⟨V3,he,_⟩:=N.out;exact ⟨_,_,_,by simp only [Ending.returned.injEq] at he;exact he⟩
  go_wp2_with fail;go_ret;exact N.out
end Go.Proofs.YtcgmgdjeamidlaaGreat
namespace Go.Proofs.YtcgmgdjeamidlaaGreat
set_option maxRecDepth 100000
set_option maxHeartbeats 16000000
open Go.RowKit Go.ChangeShapes Go.WideShapes Go.ChangeAt Go.Proofs.Tryz
open Go.ChangeMaps (setBlock)
set_option linter.unusedVariables false
set_option linter.unusedSimpArgs false
def lastL(vs:List Ver):List Ver:=vs.drop (vs.length-1)
def vacL(D:PDB)(left:List (Int×Value))(j:Int):List Ver:=if left.any (fun q=>decide (q.1=j)) then (vsOf D.all j).vs else lastL (vsOf D.all j).vs
structure VcInv(w:World)(B p ba bo r:Nat)(D:PDB)(left:List (Int×Value))(all':List (Int×Vs))(wr:World):Prop where
 rng:Rng wr ba r .u64 (vsL all') left
 db:DbAt wr B p ba bo { D with all:=all' }
 at_:∀ j,(vsOf all' j).vs=vacL D left j
 keys:all'.map (·.1)=D.all.map (·.1)
 only:Only [ba] w wr
 kept:Kept D.reads ({ D with all:=all' }:PDB).reads w
 nr:r∉({ D with all:=all' }:PDB).reads
theorem vsOf_of_mem{l:List (Int×Vs)}{x:Int×Vs}(hn:(l.map (·.1)).Nodup)(hx:x∈l):vsOf l x.1=x.2:=by
 unfold vsOf;cases hf:l.find? fun y=>decide (y.1=x.1) with
 | none=>
  have:=List.find?_eq_none.1 hf x hx;simp at this
 | some y=>
  have hy:=List.mem_of_find?_eq_some hf;have hj:y.1=x.1:=by simpa using List.find?_some hf
  have:=eq_of_map hn hy hx hj;simp [this]
theorem all_nodup{w:World}{b:Nat}{l:List (Int×Vs)}(h:MapAt w b .u64 (vsL l)):(l.map (·.1)).Nodup:=by have:=h.nodup;unfold vsL at this;rw [List.map_map] at this;exact this
theorem upS_keys{k:Int}{V:Vs}:∀ {l:List (Int×Vs)},k∈l.map (·.1)→(upS k V l).map (·.1)=l.map (·.1)
 | [],h=>by simp at h
 | x :: l,h=>by
  unfold upS;by_cases e:k=x.1
  ·rw [if_pos e];simp [e]
  ·rw [if_neg e];have h2:k∈l.map (·.1):=by
    rcases List.mem_cons.1 (by simpa using h:k∈x.1 :: l.map (·.1)) with h|h
    ·exact absurd h e
    ·exact h
   simp [upS_keys h2]
theorem vacL_step{D:PDB}{left:List (Int×Value)}{k:Int}{u:Value}(h:(k,u)∈left)(j:Int):vacL D (rm k left) j=if j=k then lastL (vsOf D.all k).vs else vacL D left j:=by
 unfold vacL;by_cases e:j=k
 ·subst e;have:(rm j left).any (fun q=>decide (q.1=j))=false:=by rw [Bool.eq_false_iff];intro hh;obtain ⟨q,hq,he⟩:=List.any_eq_true.1 hh;simp [rm] at hq;simp at he;exact hq.2 he
  rw [this,if_pos rfl];simp
 ·rw [if_neg e];have:(rm k left).any (fun q=>decide (q.1=j))=left.any (fun q=>decide (q.1=j)):=by
   rw [Bool.eq_iff_iff,List.any_eq_true,List.any_eq_true];constructor
   ·rintro ⟨q,hq,he⟩;exact ⟨q,(mem_rm.1 hq).1,he⟩
   ·rintro ⟨q,hq,he⟩;refine ⟨q,mem_rm.2 ⟨hq,?_⟩,he⟩;simp at he;rw [he];exact e
  rw [this]
theorem vacL_still{D:PDB}{left:List (Int×Value)}{k:Int}{u:Value}(h:(k,u)∈left):vacL D left k=(vsOf D.all k).vs:=by unfold vacL;have:left.any (fun q=>decide (q.1=k))=true:=List.any_eq_true.2 ⟨_,h,by simp⟩;rw [this];simp
theorem VcInv.step{w wr y wf:World}{B p ba bo r:Nat}{D:PDB}{left:List (Int×Value)}{all':List (Int×Vs)}{x:Int×Vs}{V2:Vs}{u:Ver}(h0:DbAt w B p ba bo D)(hB:B≤w.heap.size)(hr:w.heap.size≤r)
  (h:VcInv w B p ba bo r D left all' wr) (hx:x∈all') (hm:(x.1,x.2.v)∈left) (k8:Only [r] wr y) (hR:Rng wf ba r .u64 (up x.1 V2.v (vsL all')) (rm x.1 left))
  (hu:x.2.vs[x.2.vs.length-1]? = some u) (hV:V2.vs=[u]) (hVa:VsAt y V2) (hVb:∀ ad,V2.a=some ad→r<ad.block) (kf:Only [ba] y wf) :
  VcInv w B p ba bo r D (rm x.1 left) (upS x.1 V2 all') wf:=by
 have hown:∀ b∈D.own p ba bo,b<w.heap.size:=h0.lt;have hrr:r∉D.own p ba bo:=fun hh=>by have:=hown r hh;omega
 have hba:ba∈D.own p ba bo:=by simp [PDB.own]
 have D8:DbAt y B p ba bo { D with all:=all' }:=h.db.only k8 (by intro b hb;simp at hb;subst hb;exact ⟨hrr,h.nr⟩);have humem:u∈x.2.vs:=List.mem_of_getElem? hu;have hub:∀ b∈u.bs,b∈({ D with all:=all' }:PDB).reads:=fun b hb=>mem_reads1 (D:={ D with all:=all' }) hx (List.mem_append_right _ (List.mem_flatMap.2 ⟨u,humem,hb⟩));have hV2:∀ b∈V2.bs,(r<b∧w.heap.size≤b)∨b∈({ D with all:=all' }:PDB).reads:=fun b hb=>by
  rcases List.mem_append.1 hb with hb|hb
  ·simp only [Option.mem_toList,Option.map_eq_some_iff] at hb;obtain ⟨ad,ha,rfl⟩:=hb;have:=hVb ad ha;exact .inl ⟨this,by omega⟩
  ·rw [hV] at hb;simp at hb;exact .inr (hub b hb)
 have hVf:VsAt wf V2:=hVa.only kf fun b hb=>by
  simp;rintro rfl;rcases hV2 b hb with h1|h1
  ·have:=hown _ hba;omega
  ·exact h.db.ap _ hba h1
 obtain ⟨d1,d2⟩:=D8.laid (key:=x.1) (V:=V2) kf hR.mapAt hVf (fun b hb=>by
  rcases hV2 b hb with h1|h1
  ·omega
  ·exact h.db.gr b h1) (fun b hb hh=>by
  rcases hV2 b hb with h1|h1
  ·have:=hown b hh;omega
  ·exact h.db.ap b hh h1)
 have hkeys:x.1∈all'.map (·.1):=List.mem_map.2 ⟨x,hx,rfl⟩;have hxv:vsOf all' x.1=x.2:=vsOf_of_mem (all_nodup h.db.am) hx;refine ⟨by rw [←up_vsL];exact hR,d1,fun j=>?_,by rw [upS_keys hkeys,h.keys],(h.only.trans k8 (by simp;omega)).trans kf (by simp),fun b hb=>?_,fun hh=>?_⟩
 ·rw [vsOf_up,vacL_step hm];by_cases e:j=x.1
  ·rw [if_pos e,if_pos e,hV];have h3:=h.at_ x.1;rw [vacL_still hm,hxv] at h3;rw [←h3];unfold lastL;have hlen:=(List.getElem?_eq_some_iff.1 hu).1;have h4:(x.2.vs.drop (x.2.vs.length-1)).length=1:=by simp;omega
   obtain ⟨z,hz⟩:=List.length_eq_one_iff.1 h4;have h5:(x.2.vs.drop (x.2.vs.length-1))[0]? = some u:=by rw [List.getElem?_drop];simpa using hu
   rw [hz] at h5 ⊢;simp at h5;rw [h5]
  ·rw [if_neg e,if_neg e];exact h.at_ j
 ·rcases d2 b hb with h1|h1
  ·exact h.kept b h1
  ·rcases hV2 b h1 with h2|h2
   ·exact .inr h2.2
   ·exact h.kept b h2
 ·rcases d2 r hh with h1|h1
  ·exact h.nr h1
  ·rcases hV2 r h1 with h2|h2
   ·omega
   ·exact h.nr h2
def VacTo(B p:Nat)(D:PDB)(F H:List Nat)(w:World)(e:Ending)(w':World):Prop:=∃ all',(all'.map (·.1)=D.all.map (·.1))∧(∀ j,(vsOf all' j).vs=lastL (vsOf D.all j).vs)∧DbTo (.int .i64 0) B p { D with all:=all' } F H w e w'
theorem vacuum_busy{w:World}{B p ba bo:Nat}{D:PDB}(h:DbAt w B p ba bo D)(hl:0<D.op.length):Calls prog 236 #[.pointer (some ⟨p,0,none⟩)] w fun e w'=>e=.returned (.int .i64 0)∧w'=w:=by
 have c4:=h.row.c 4 (.map (some bo));have TH:=Ξ (there_on h.row);have HH:=Ξ h.om;have hlen:(0:Int)<((pxL D.op).length:Int):=by simp [pxL];omega
 clear h;go_enter func236,ntmps236;go_wp2_with fail;refine TH.out.mono ?_;rintro _ w1 ⟨rfl,hw⟩;subst w1;go_wp2_with (at_len;refine wpList_len_at _ rfl (.tmp 14) tMpx rfl 34 280 .u64 underlying106 bo (pxL D.op) rfl HH.out ?_);go_ret;exact ⟨rfl,rfl⟩
theorem vacuum_on{w:World}{B p:Nat}{D:PDB}{F H:List Nat}(h:DbF w B p D F H)(hB:B≤w.heap.size)(hop:D.op=[])(hne:∀ x∈D.all,x.2.vs≠[]) :
  Calls prog 236 #[.pointer (some ⟨p,0,none⟩)] w (VacTo B p D F H w):=by
 obtain ⟨ba,bo,h,rfl,rfl⟩:=h;have c4:=h.row.c 4 (.map (some bo));have c3:=h.row.c 3 (.map (some ba));have TH:=Ξ (there_on h.row);have HH:=Ξ h;have HBB:=Ξ hB;have HNE:=Ξ hne;have hlen:((pxL D.op).length:Int)=0:=by simp [pxL,hop]
 clear h hB hop hne;go_enter func236,ntmps236;go_wp2_with fail;refine TH.out.mono ?_;rintro _ w1 ⟨rfl,hw⟩;subst w1;go_wp2_with (first|(at_len;refine wpList_len_at _ rfl (.tmp 14) tMpx rfl 34 280 .u64 underlying106 bo (pxL D.op) rfl HH.out.om ?_)|(at_range;refine wpList_range_at _ rfl (.tmp 20) tMvs rfl 34 tVrs .u64 underlying105 ba (vsL D.all) rfl HH.out.am ?_;intro w5 r5 o5 s5));have I5:Hid (VcInv w B p ba bo w.heap.size D (vsL D.all) D.all w5):=Ξ ⟨r5,HH.out.only o5 (by simp),fun j=>by
  unfold vacL vsOf;cases hf:D.all.find? fun x=>decide (x.1=j) with
  | none=>simp [lastL,Vs.no]
  | some y=>
   have hy:=List.mem_of_find?_eq_some hf;have hj:y.1=j:=by simpa using List.find?_some hf
   have:(vsL D.all).any (fun q=>decide (q.1=j))=true:=List.any_eq_true.2 ⟨(y.1,y.2.v),List.mem_map.2 ⟨y,hy,rfl⟩,by simp [hj]⟩;simp [this],rfl,o5.mono (by simp),fun b hb=>.inl hb,fun hr=>by have:=HH.out.ltr _ hr;omega⟩
 clear r5 o5 s5 c3 c4;go_wp2_with fail;simp only [Act.put,List.setIfInBounds_toArray,List.set_cons_zero,List.set_cons_succ];go_loopw [4,5] (fun u v wr=>Hid (∃ left all',VcInv w B p ba bo w.heap.size D left all' wr)) (fun u v wr=>wr.rangeLeft ba w.heap.size)
 case atStart=>exact Ξ ⟨_,_,I5.out⟩
 case round=>
  obtain ⟨left,all',hI⟩:=hrel.out;have HI:=Ξ hI;clear hI hrel;go_wp2_with (at_next;refine wpList_next_at _ rfl (.tmp 21) rfl ba w.heap.size .u64 (vsL all') left rfl HI.out.rng ?_ ?_)
  ·intro hnil;have HN:=Ξ hnil;clear hnil;go_wp2_with fail;go_ret;exact ⟨all',HI.out.keys,fun j=>by rw [HI.out.at_ j,HN.out];simp [vacL],_,_,rfl,⟨ba,bo,HI.out.db,rfl,rfl⟩,HI.out.only.mono (by intro i hi;simp at hi;subst hi;exact .inl (by simp [PDB.own])),fun b hb=>.inl hb,HI.out.kept⟩
  ·intro k v w6 hmem hr6 ho6 hs6 hen;obtain ⟨x,hx,hkv⟩:=List.mem_map.1 (HI.out.rng.sub _ hmem);simp only [Prod.mk.injEq] at hkv;obtain ⟨rfl,rfl⟩:=hkv;have HX:=Ξ hx;have HM:=Ξ hmem;have R6:=Ξ hr6;have O6:=Ξ ho6;have hnr:w.heap.size∉D.own p ba bo:=fun hh=>by have:=HH.out.lt _ hh;omega
   have D6:=Ξ (HI.out.db.only ho6 (by intro b hb;simp at hb;subst hb;exact ⟨hnr,HI.out.nr⟩));have VX:=Ξ (D6.out.vsd x hx);have hxne:x.2.vs≠[]:=by
    have h3:=HI.out.at_ x.1;rw [vacL_still hmem,vsOf_of_mem (all_nodup HI.out.db.am) hx] at h3;rw [h3];have hk:x.1∈D.all.map (·.1):=by rw [←HI.out.keys];exact List.mem_map.2 ⟨x,hx,rfl⟩
    obtain ⟨z,hz,hzk⟩:=List.mem_map.1 hk;rw [←hzk,vsOf_of_mem (all_nodup HH.out.am) hz];exact HNE.out z hz
   obtain ⟨n,hn⟩:∃ n,x.2.vs.length=n:=⟨_,rfl⟩;have hn1:1≤n:=by rw [←hn];exact List.length_pos_iff.2 hxne
   obtain ⟨m,hm⟩:∃ m,n-1=m:=⟨_,rfl⟩;obtain ⟨u,hu⟩:∃ u,x.2.vs[m]? = some u:=⟨_,List.getElem?_eq_getElem (by omega)⟩;obtain ⟨b,f,ha,hc⟩:=Vs.at_ VX.out hu;have hcap:=VX.out.cap;have HU:=Ξ hu;have HNM:Hid (x.2.vs.length=n∧n-1=m∧1≤n):=Ξ ⟨hn,hm,hn1⟩;have V1:Hid (VsAt w6 ⟨some ⟨b,f+m * 5,none⟩,x.2.c-m,[u]⟩):=Ξ (by
    refine ⟨.inr ⟨⟨b,f+m * 5,none⟩,x.2.c-m,rfl,rfl,fun j z hj=>?_⟩,fun ad had=>?_,fun z hz=>?_,?_,fun ad had=>?_⟩
    ·have hj5:j<5:=by have:=(List.getElem?_eq_some_iff.1 hj).1;simpa [verL,Ver.cells] using this
     rw [add_plain];have hcj:=hc j hj5;rw [show f+m * 5+j=f+(m * 5+j) by omega,hcj];simpa [verL] using hj
    ·simp only [Option.some.injEq] at had;subst had;exact VX.out.lt ⟨b,f,none⟩ ha
    ·simp only [List.mem_singleton] at hz;subst hz;exact VX.out.each _ (List.mem_of_getElem? hu)
    ·simp;omega
    ·simp only [Option.some.injEq] at had;subst had;rfl)
   have ev:x.2.v=.slice (some ⟨b,f,none⟩) n x.2.c:=by unfold Vs.v;rw [ha,hn]
   have DA:∀ y,Only [] w6 y→y.cell? ⟨p,3,none⟩=some (.map (some ba)):=fun y hy=>(D6.out.row.only hy (by simp)).cell 3;have HDA:=Ξ DA;have g1:IntKind.i64.wrap ((n:Int)-1)=(m:Int):=by rw [IntWalk.i64_in _ (by unfold maxLen at hcap;omega)];omega
   have g2:n-m=1:=(by omega);have g3:¬ x.2.c=m:=(by omega);have g4:m≤n:=(by omega);have EV:=Ξ ev;rw [ev] at hen HM;rw [ev];generalize x.2.c=c9 at *;clear hmem hr6 ho6 hs6 hx hnr DA hxne hn hm hn1 hu ha hc hcap ev;have CL:Hid (∀ y,Only [] w6 y→Calls prog 247 #[.slice (some ⟨b,f+m * 5,none⟩) 1 (c9-m)] y (CloneVTo [u] y)):=Ξ fun y hy=>clone_vs (V1.out.only hy (by simp)) (by simp);go_upto_region 9 with fail;go_region_held3 (fun y=>y.cell? ⟨p,3,none⟩=some (.map (some ba)))
    (first
     | exact ((D6.out.row.only X4.out (by simp)).only setBlock_only (by simpa using (own_apart HH.out.nd).1)).cell 3
     | exact HDA.out _ X4.out
     | exact HDA.out _ ((Ω [] w6).drew.mono (by simp)))
    (first|((with_reducible refine (CL.out w6.drew ((Ω [] w6).drew)).mono ?_);rintro _ w4 ⟨V2,rfl,e2,e3,e4,hb⟩;have X4:=Ξ ((Ω [] w6).drew.below hb);have N2:=Ξ (Ψ e2 (Ψ e3 e4));have R4:=Ξ (R6.out.only X4.out (by simp) (by simp));obtain ⟨es,clock,hb0,hs0,hL0⟩:MapAt w4 ba .u64 (vsL all'):=R4.out.mapAt;have hup:=run_update (P:=prog) (w:=w4) hb0 hL0 underlying105 underlying34 x.1 (Value.slice V2.a V2.vs.length V2.c);have RU:=Ξ (R4.out.updated hb0 hs0 hL0 (k:=x.1) (Value.slice V2.a V2.vs.length V2.c) ⟨_,List.mem_map.2 ⟨x,HX.out,rfl⟩⟩ (fun q hq=>(mem_rm.1 hq).2) (by have:=HH.out.am.lt;omega));generalize upObj es clock .u64 x.1 (Value.slice V2.a V2.vs.length V2.c) (vsL all')=ob at hup RU;clear e2 e3 e4 hb hb0 hs0 hL0;unfold Vs.v))
   all_goals
    have NX:Hid (VcInv w B p ba bo w.heap.size D (rm x.1 left) (upS x.1 V2 all') (setBlock w4 ba ob)):=Ξ (VcInv.step (u:=u) HH.out HBB.out (Θ _) HI.out HX.out (by rw [EV.out];exact HM.out) (O6.out.trans X4.out (by simp)) RU.out (by rw [HNM.out.1,HNM.out.2.1];exact HU.out) N2.out.1 N2.out.2.1 (fun ad had=>by have h1:=N2.out.2.2 ad had;have h2:=R6.out.lt;simp at h1;omega) setBlock_only);clear hup;generalize setBlock w4 ba ob=w9 at *;go_wp2_with fail;go_roundw;case rel=>exact Ξ ⟨_,_,NX.out⟩
    case measure=>rw [NX.out.rng.left_eq,HI.out.rng.left_eq];exact rm_lt HM.out
end Go.Proofs.YtcgmgdjeamidlaaGreat
namespace Go.Proofs.YtcgmgdjeamidlaaGreat
set_option maxRecDepth 100000
set_option maxHeartbeats 16000000
open Go.RowKit Go.ChangeShapes Go.WideShapes Go.ChangeAt Go.Proofs.Tryz
set_option linter.unusedVariables false
set_option linter.unusedSimpArgs false
def Up(L:List Rc):Prop:=L.Pairwise fun a b=>a.1<b.1
structure Shows(L:List Rc)(f:Int→Option Rc):Prop where
 up:Up L
 mem:∀ c,c∈L↔f c.1=some c
 keyed:∀ k c,f k=some c→c.1=k
theorem up_unique:∀ {L M:List Rc},Up L→Up M→(∀ c,c∈L↔c∈M)→L=M:=by
 intro L;induction L with
 | nil=>
  intro M _ _ h;cases M with
  | nil=>rfl
  | cons b M=>exact absurd ((h b).2 (by simp)) (by simp)
 | cons a L ih=>
  intro M hL hM h;cases M with
  | nil=>exact absurd ((h a).1 (by simp)) (by simp)
  | cons b M=>
   have hL':=List.pairwise_cons.1 hL;have hM':=List.pairwise_cons.1 hM;have hab:a=b:=by
    rcases List.mem_cons.1 ((h a).1 (by simp)) with e|h1
    ·exact e
    ·rcases List.mem_cons.1 ((h b).2 (by simp)) with e|h2
     ·exact e.symm
     ·have:=hM'.1 a h1;have:=hL'.1 b h2;omega
   subst hab;rw [ih hL'.2 hM'.2 fun c=>⟨fun hc=>?_,fun hc=>?_⟩]
   ·rcases List.mem_cons.1 ((h c).1 (List.mem_cons_of_mem _ hc)) with e|h1
    ·subst e;have:=hL'.1 c hc;omega
    ·exact h1
   ·rcases List.mem_cons.1 ((h c).2 (List.mem_cons_of_mem _ hc)) with e|h1
    ·subst e;have:=hM'.1 c hc;omega
    ·exact h1
theorem Shows.unique{L M:List Rc}{f:Int→Option Rc}(h:Shows L f)(k:Shows M f):L=M:=up_unique h.up k.up fun c=>(h.mem c).trans (k.mem c).symm
theorem Shows.congr{L:List Rc}{f g:Int→Option Rc}(h:Shows L f)(e:∀ k,f k=g k):Shows L g:=by
 have:f=g:=funext e
 rwa [this] at h
theorem shows_list{zs:List Int}{f:Int→Option Rc}(hz:zs.Pairwise (· < ·))(hk:∀ k c,f k=some c→c.1=k)(hc:∀ k,f k≠none→k∈zs):Shows (zs.filterMap f) f:=by
 refine ⟨?_,fun c=>?_,hk⟩
 ·unfold Up;rw [List.pairwise_filterMap];refine hz.imp fun {a b} hab c hc d hd=>?_;rw [hk a c hc,hk b d hd];exact hab
 ·rw [List.mem_filterMap];constructor
  ·rintro ⟨a,_,ha⟩;rw [hk a c ha];exact ha
  ·intro h;exact ⟨c.1,hc c.1 (by rw [h];simp),h⟩
end Go.Proofs.YtcgmgdjeamidlaaGreat
