/- Texts of one proof, joined. -/
import Derived.Test.YtcgmgdjeamidlaaGreatMg02
import Derived.BigRegion
import Derived.BigQuiet
import Derived.Deep.QuietTactic
import Derived.Deep.RegionWith
import Derived.Deep.RegionHeld3
import Derived.Deep.CutRange
import Derived.Laws.BitsAllLaws
namespace Go.Proofs.YtcgmgdjeamidlaaGreat
set_option maxRecDepth 100000
set_option maxHeartbeats 16000000
open Go.RowKit Go.ChangeShapes Go.WideShapes Go.ChangeAt Go.Proofs.Tryz
set_option linter.unusedVariables false
set_option linter.unusedSimpArgs false
abbrev tMvs:TypeId:=105
abbrev tMpx:TypeId:=106
abbrev tMvr:TypeId:=283
theorem zeroPx(w:World):(zeroValue 280).run prog w=.ok (.pointer none) w:=by kernel_rfl
theorem zeroVs(w:World):(zeroValue 286).run prog w=.ok (.slice none 0 0) w:=by kernel_rfl
theorem zeroVr(w:World):(zeroValue tVr).run prog w=.ok (.agg #[.int .u64 0,.bool false,.int .u64 0,.slice none 0 0,.slice none 0 0]) w:=by kernel_rfl
theorem there_on{w:World}{p ba bo:Nat}{D:PDB}(h:Row w p (D.cells ba bo) tDb):Calls prog 238 #[.pointer (some ⟨p,0,none⟩)] w fun e w'=>e=.returned (.int .i64 0)∧w'=w:=by have c3:=h.c 3 (.map (some ba));clear h;have qT:∀ (w:World) (r:Option Nat),(binOp .eql tMvs (.map r) (.map none)).run prog w=.ok (.bool r.isNone) w:=fun w r=>run_eql_map_nil w _ _ _ r underlying105;go_enter func238,ntmps238;go_wp2_with fail;go_ret;exact ⟨rfl,rfl⟩
def findP(n:Int)(l:List PTx):Option PTx:=l.find? fun o=>decide (o.n=n)
theorem lk_map{α:Type}(key:α→Int)(val:α→Value)(n:Int):∀ (l:List α),lk n (l.map fun x=>(key x,val x))=(l.find? fun x=>decide (key x=n)).map val
 | []=>rfl
 | x :: l=>by
  simp only [List.map_cons,lk,List.find?_cons];by_cases h:n=key x
  ·rw [if_pos h,Γ h.symm];rfl
  ·rw [if_neg h,Λ (fun e=>h e.symm),lk_map key val n l]
theorem findP_some{n:Int}{l:List PTx}{o:PTx}(h:findP n l=some o):o∈l∧o.n=n:=⟨List.mem_of_find?_eq_some h,by simpa using List.find?_some h⟩
theorem find_yes{w:World}{B p ba bo:Nat}{D:PDB}(h:DbAt w B p ba bo D){n:Int}{o:PTx}(ho:findP n D.op=some o) :
  Calls prog 237 #[.pointer (some ⟨p,0,none⟩),.int .u64 n] w fun e w'=>e=.returned (.tuple #[.pointer (some ⟨o.bt,0,none⟩),.int .i64 0])∧w'=w:=by
 have TH:=Ξ (there_on h.row);have c4:=h.row.c 4 (.map (some bo));have OM:=Ξ h.om;have hl:(lk n (pxL D.op)).getD (.pointer none)=.pointer (some ⟨o.bt,0,none⟩):=by unfold pxL;rw [lk_map];unfold findP at ho;rw [ho];rfl
 clear h ho;go_enter func237,ntmps237;go_wp2_with fail;refine TH.out.mono ?_;rintro _ w1 ⟨rfl,hw⟩;subst w1;go_wp2_with (at_lookup;refine wpList_look_at _ rfl (.tmp 16) (.tmp 17) tMpx false rfl 34 280 .u64 underlying106 underlying34 _ zeroPx bo (pxL D.op) rfl OM.out n rfl ?_);go_ret2;exact ⟨rfl,rfl⟩
theorem find_no{w:World}{B p ba bo:Nat}{D:PDB}(h:DbAt w B p ba bo D){n:Int}(ho:findP n D.op=none) :
  Calls prog 237 #[.pointer (some ⟨p,0,none⟩),.int .u64 n] w fun e w'=>e=.returned (.tuple #[.pointer none,.int .i64 12])∧w'=w:=by
 have TH:=Ξ (there_on h.row);have c4:=h.row.c 4 (.map (some bo));have OM:=Ξ h.om;have hl:(lk n (pxL D.op)).getD (.pointer none)=.pointer none:=by unfold pxL;rw [lk_map];unfold findP at ho;rw [ho];rfl
 clear h ho;go_enter func237,ntmps237;go_wp2_with fail;refine TH.out.mono ?_;rintro _ w1 ⟨rfl,hw⟩;subst w1;go_wp2_with (at_lookup;refine wpList_look_at _ rfl (.tmp 16) (.tmp 17) tMpx false rfl 34 280 .u64 underlying106 underlying34 _ zeroPx bo (pxL D.op) rfl OM.out n rfl ?_);go_ret2;exact ⟨rfl,rfl⟩
def newP(dim:Int):PDB:=⟨dim,0,0,[],[]⟩
def NewPTo(dim:Int)(w:World)(e:Ending)(w':World):Prop:=∃ p F H,e=.returned (.tuple #[.pointer (some ⟨p,0,none⟩),.int .i64 0])∧DbF w' w.heap.size p (newP dim) F H∧Below w.heap.size w w'
theorem new_on(dim:Int)(w:World)(h0:1≤dim)(h1:dim≤4096) :
  Calls prog 12 #[.int .i64 dim] w (NewPTo dim w):=by
 have hmm:=@run_makeMap prog;have d1:decide (dim<1)=false:=Λ (by omega);have d2:decide (4096<dim)=false:=Λ (by omega);go_enter func12,ntmps12;go_wp2_with fail;go_ret2;have k0:=Ω [] (w.alloc (.map #[] 0));have k1:=k0.alloc (.map #[] 0);refine ⟨_,_,_,rfl,⟨w.heap.size,w.heap.size+1,?_,rfl,rfl⟩,((((Δ _ _).alloc (Θ _) _).alloc (by simp) _).alloc (by simp;omega) _)⟩;refine ⟨?_,((MapAt.made w .u64).only k1 (by simp)).only ((Ω [] _).alloc _) (by simp),?_,by intro o ho;simp [newP] at ho,by intro o ho;simp [newP] at ho,by intro o ho;simp [newP] at ho,?_,?_,by simp [PDB.reads,newP],by simp [PDB.reads,newP],⟨⟨h0,h1⟩,by simp [newP],by simp [newP],by intro o ho;simp [newP] at ho⟩⟩
 ·have:=Φ ((w.alloc (.map #[] 0)).alloc (.map #[] 0)) ((newP dim).cells w.heap.size (w.heap.size+1)) tDb;simpa [PDB.cells,newP] using this
 ·have hs:(w.alloc (.map #[] 0)).heap.size=w.heap.size+1:=by simp
  show MapAt _ _ _ [];rw [←hs];exact (MapAt.made (w.alloc (.map #[] 0)) .u64).only ((Ω [] _).alloc _) (by simp)
 ·simp [PDB.own,newP,pxB];omega
 ·simp [PDB.own,newP,pxB];try omega
theorem item_ok{key:Int}{vec tag:Sl}{w:World}(h1:0<vec.xs.length)(h2:vec.xs.length≤4096)(h3:tag.xs.length≤1024) :
  Calls prog 112 #[.agg #[.int .u64 key,vec.v,tag.v]] w fun e w'=>e=.returned (.int .i64 0)∧Below w.heap.size w w':=by
 obtain ⟨va,vc,xs⟩:=vec;obtain ⟨ta,tc,ys⟩:=tag;unfold Sl.v;simp only at h1 h2 h3;obtain ⟨n,hn⟩:∃ n,xs.length=n:=⟨_,rfl⟩;obtain ⟨m,hm⟩:∃ m,ys.length=m:=⟨_,rfl⟩;simp only [hn,hm] at h1 h2 h3 ⊢;have d1:((n:Int) == 0)=false:=by simpa using (show (n:Int)≠0 by omega)
 have d1':decide ((n:Int)=0)=false:=Λ (by omega);have d2:decide ((4096:Int)<(n:Int))=false:=Λ (by omega);have d2':decide (4096<n)=false:=Λ (by omega);have d3:decide ((1024:Int)<(m:Int))=false:=Λ (by omega);have d3':decide (1024<m)=false:=Λ (by omega);have d4:((n == 0)=false):=by simpa using (show n≠0 by omega)
 have d5:decide (n=0)=false:=Λ (by omega);clear hn hm;go_enter func112,ntmps112;go_wp2_with fail;go_ret;exact ⟨rfl,(Δ _ _).alloc (Θ _) _⟩
def Kept(F F':List Nat)(w:World):Prop:=∀ b∈F',b∈F∨w.heap.size≤b
theorem Kept.refl(F:List Nat)(w:World):Kept F F w:=fun b hb=>.inl hb
def begP(D:PDB):PDB:={ D with begun:=D.begun+1 }
def beginP(D:PDB)(bt bm:Nat):PDB:={ D with begun:=D.begun+1,op:=D.op++[⟨D.begun+1,D.last,bt,bm,[]⟩] }
theorem pxB_append(a b:List PTx):pxB (a++b)=pxB a++pxB b:=by simp [pxB]
theorem pxL_append(a b:List PTx):pxL (a++b)=pxL a++pxL b:=by simp [pxL]
theorem own_apart{D:PDB}{p ba bo:Nat}(h:(D.own p ba bo).Nodup):p≠ba∧p≠bo∧ba≠bo∧(∀ b∈pxB D.op,b≠p∧b≠ba∧b≠bo):=by
 simp only [PDB.own,List.nodup_cons,List.mem_cons,not_or] at h;obtain ⟨⟨h1,h2,h3⟩,⟨h4,h5⟩,h6,_⟩:=h;refine ⟨h1,h2,h4,fun b hb=>⟨?_,?_,?_⟩⟩
 ·rintro rfl;exact h3 hb
 ·rintro rfl;exact h5 hb
 ·rintro rfl;exact h6 hb
theorem DbAt.head{w:World}{B p ba bo:Nat}{D D':PDB}(h:DbAt w B p ba bo D)(j:Nat)(u:Value)(hc:D'.cells ba bo=(D.cells ba bo).setIfInBounds j u)(h1:D'.all=D.all)(h2:D'.op=D.op)(hf:D'.Fine) :
  DbAt (w.setCell ⟨p,j,none⟩ u) B p ba bo D'∧Only [p] w (w.setCell ⟨p,j,none⟩ u):=by
 have k:Only [p] w (w.setCell ⟨p,j,none⟩ u):=(Ω _ _).setCell (by simp) _;obtain ⟨a1,a2,a3,a4⟩:=own_apart h.nd;have hr:D'.reads=D.reads:=by unfold PDB.reads;rw [h1,h2]
 have ho:D'.own p ba bo=D.own p ba bo:=by unfold PDB.own;rw [h2]
 have hp:p∈D.own p ba bo:=by simp [PDB.own]
 refine ⟨⟨by rw [hc];exact h.row.set j u,by rw [h1];exact h.am.only k (by simp;exact fun e=>a1 e.symm),by rw [h2];exact h.om.only k (by simp;exact fun e=>a2 e.symm),?_,?_,?_,by rw [ho];exact h.nd,by rw [ho];exact h.ge,by rw [hr];exact h.gr,by rw [ho,hr];exact h.ap,hf⟩,k⟩
 ·rw [h2];exact fun o hh=>⟨(h.oa o hh).1.only k (by simp;exact (a4 _ (mem_pxB hh).1).1),(h.oa o hh).2.only k (by simp;exact (a4 _ (mem_pxB hh).2).1)⟩
 ·rw [h1];exact fun x hx=>(h.vsd x hx).only k fun b hb=>by simp;rintro rfl;exact h.ap _ hp (mem_reads1 hx hb)
 ·rw [h2];exact fun o hh y hy=>(h.wrd o hh y hy).only k fun b hb=>by simp;rintro rfl;exact h.ap _ hp (mem_reads2 hh hy hb)
theorem DbAt.opened{w w':World}{B p ba bo:Nat}{D:PDB}{o:PTx}(h:DbAt w B p ba bo D)(k:Only [bo] w w')(hm:MapAt w' bo .u64 (pxL (D.op++[o])))
  (hr:Row w' o.bt #[.int .u64 o.start,.map (some o.bm)] tPx) (hk:MapAt w' o.bm .u64 (wrL o.wr)) (hw:o.wr=[]) (n1:o.bt∉D.own p ba bo∧o.bt∉D.reads) (n2:o.bm∉D.own p ba bo∧o.bm∉D.reads) (n3:o.bt≠o.bm) (g1:B≤o.bt) (g2:B≤o.bm)
  (f1:0<o.n∧o.n≤D.begun∧0≤o.start∧o.start≤D.last):DbAt w' B p ba bo { D with op:=D.op++[o] }:=by
 obtain ⟨a1,a2,a3,a4⟩:=own_apart h.nd;have hbo:bo∈D.own p ba bo:=by simp [PDB.own]
 have hperm:(({ D with op:=D.op++[o] }:PDB).own p ba bo).Perm (o.bt :: o.bm :: D.own p ba bo):=by
  simp only [PDB.own,pxB_append];have e:pxB [o]=[o.bt,o.bm]:=by simp [pxB]
  rw [e];have:(p :: ba :: bo :: (pxB D.op++[o.bt,o.bm]))=(p :: ba :: bo :: pxB D.op)++[o.bt,o.bm]:=by simp
  rw [this];exact List.perm_append_comm
 have hrd:({ D with op:=D.op++[o] }:PDB).reads=D.reads:=by simp [PDB.reads,hw,wrB]
 have k1:∀ b,b∈D.reads→b∉[bo]:=fun b hb=>by simp;rintro rfl;exact h.ap _ hbo hb
 refine ⟨h.row.only k (by simp;exact a2),h.am.only k (by simp;exact a3),hm,?_,fun x hx=>(h.vsd x hx).only k fun b hb=>k1 b (List.mem_append_left _ (List.mem_flatMap.2 ⟨x,hx,hb⟩)),?_,?_,?_,by rw [hrd];exact h.gr,?_,⟨h.fine.dim,h.fine.begun,h.fine.last,?_⟩⟩
 ·intro x hx;rcases List.mem_append.1 hx with hx|hx
  ·exact ⟨(h.oa x hx).1.only k (by simp;exact (a4 _ (mem_pxB hx).1).2.2),(h.oa x hx).2.only k (by simp;exact (a4 _ (mem_pxB hx).2).2.2)⟩
  ·simp only [List.mem_singleton] at hx;subst hx;exact ⟨hr,hk⟩
 ·intro x hx y hy;rcases List.mem_append.1 hx with hx|hx
  ·exact (h.wrd x hx y hy).only k fun b hb=>k1 b (mem_reads2 hx hy hb)
  ·simp only [List.mem_singleton] at hx;subst hx;rw [hw] at hy;simp at hy
 ·refine hperm.nodup_iff.2 (List.nodup_cons.2 ⟨?_,List.nodup_cons.2 ⟨n2.1,h.nd⟩⟩);simp only [List.mem_cons,not_or];exact ⟨n3,n1.1⟩
 ·intro b hb;have:=hperm.mem_iff.1 hb;simp only [List.mem_cons] at this;rcases this with rfl|rfl|hb
  ·exact g1
  ·exact g2
  ·exact h.ge b hb
 ·rw [hrd];intro b hb;have:=hperm.mem_iff.1 hb;simp only [List.mem_cons] at this;rcases this with rfl|rfl|hb
  ·exact n1.2
  ·exact n2.2
  ·exact h.ap b hb
 ·intro x hx;rcases List.mem_append.1 hx with hx|hx
  ·exact h.fine.ops x hx
  ·simp only [List.mem_singleton] at hx;subst hx;exact f1
theorem up_freshP(n:Int)(v:Value)(l:List PTx)(h:∀ o∈l,o.n≠n):up n v (pxL l)=pxL l++[(n,v)]:=by refine up_none fun p hp=>?_;obtain ⟨o,ho,rfl⟩:=List.mem_map.1 hp;exact h o ho
def BeginPTo(B p:Nat)(D:PDB)(F H:List Nat)(w:World)(e:Ending)(w':World):Prop:=∃ bt bm F',e=.returned (.tuple #[.int .u64 (D.begun+1),.int .i64 0])∧DbF w' B p (beginP D bt bm) F' H∧Only F w w'∧Kept F F' w
theorem begin_on{w:World}{B p:Nat}{D:PDB}{F H:List Nat}(h:DbF w B p D F H)(hB:B≤w.heap.size)(hl:D.op.length<8)(hb:D.begun<1000000) :
  Calls prog 228 #[.pointer (some ⟨p,0,none⟩)] w (BeginPTo B p D F H w):=by
 obtain ⟨ba,bo,h,rfl,rfl⟩:=h;have hmm:=@run_makeMap prog;have c1:=h.row.c 1 (.int .u64 D.begun);have c4:=h.row.c 4 (.map (some bo));have fz:=h.row.free 1;have TH:=Ξ (there_on h.row);have g2:=h.fine.begun;have hlen:((pxL D.op).length:Int)<8:=by simp [pxL];omega
 have HH:=Ξ h;have H1:=Ξ (h.head (D':=begP D) 1 (.int .u64 (D.begun+1)) rfl rfl rfl ⟨h.fine.dim,⟨by show 0≤D.begun+1;omega,by show D.begun+1≤1000000;omega⟩,h.fine.last,fun o ho=>by have:=h.fine.ops o ho;show 0<o.n∧o.n≤D.begun+1∧0≤o.start∧o.start≤D.last;omega⟩);have HB:=Ξ hB;clear h hl hB;go_enter func228,ntmps228;go_wp2_with fail;refine TH.out.mono ?_;rintro _ w1 ⟨rfl,hw⟩;subst w1;go_wp2_with (at_len;refine wpList_len_at _ rfl (.tmp 12) tMpx rfl 34 280 .u64 underlying106 bo (pxL D.op) rfl HH.out.om ?_);have M1:=Ξ H1.out.1;have K1:=Ξ H1.out.2;clear H1 c1 c4 fz;generalize w.setCell ⟨p,1,none⟩ (.int .u64 (D.begun+1))=w2 at *;have d1:=M1.out.row.c 1 (.int .u64 (D.begun+1));have d2:=M1.out.row.c 2 (.int .u64 D.last);have d4:=M1.out.row.c 4 (.map (some bo));have plt:=M1.out.row.lt;obtain ⟨W3,hW3⟩:∃ W3,W3=(w2.alloc (.map #[] 0)).alloc (.cells #[.int .u64 D.last,.map (some w2.heap.size)] tPx (0,0)):=⟨_,rfl⟩;have O3:Only [] w2 W3:=by rw [hW3];exact ((Ω [] w2).alloc _).alloc _
 have d1a:(w2.alloc (.map #[] 0)).cell? ⟨p,1,none⟩=some (.int .u64 (D.begun+1)):=by rw [((Ω [] w2).alloc _).cell plt (by simp)];exact d1
 have d2a:(w2.alloc (.map #[] 0)).cell? ⟨p,2,none⟩=some (.int .u64 D.last):=by rw [((Ω [] w2).alloc _).cell plt (by simp)];exact d2
 have d4a:(w2.alloc (.map #[] 0)).cell? ⟨p,4,none⟩=some (.map (some bo)):=by rw [((Ω [] w2).alloc _).cell plt (by simp)];exact d4
 have d1b:W3.cell? ⟨p,1,none⟩=some (.int .u64 (D.begun+1)):=by rw [O3.cell plt (by simp)];exact d1
 have d4b:W3.cell? ⟨p,4,none⟩=some (.map (some bo)):=by rw [O3.cell plt (by simp)];exact d4
 obtain ⟨es,clock,hb0,hs0,hL0⟩:MapAt W3.drew bo .u64 (pxL D.op):=(M1.out.om.only O3 (by simp)).only ((Ω [] W3).drew) (by simp);have hup:=run_update (P:=prog) (w:=W3.drew) hb0 hL0 underlying106 underlying34 (D.begun+1) (.pointer (some ⟨w2.heap.size+1,0,none⟩));have hset:=Ξ (MapAt.set hb0 hs0 hL0 (D.begun+1) (.pointer (some ⟨w2.heap.size+1,0,none⟩)));have pl2:(ChangeMaps.setBlock W3.drew bo (upObj es clock .u64 (D.begun+1) (.pointer (some ⟨w2.heap.size+1,0,none⟩)) (pxL D.op))).cell? ⟨p,1,none⟩=some (.int .u64 (D.begun+1)):=by have k:Only [bo] W3 (ChangeMaps.setBlock W3.drew bo (upObj es clock .u64 (D.begun+1) (.pointer (some ⟨w2.heap.size+1,0,none⟩)) (pxL D.op))):=((Ω [bo] W3).drew).trans setBlock_only (by simp);rw [k.cell (Nat.lt_of_lt_of_le plt O3.size) (by simp;exact (own_apart HH.out.nd).2.1)];exact d1b
 generalize upObj es clock .u64 (D.begun+1) (.pointer (some ⟨w2.heap.size+1,0,none⟩)) (pxL D.op)=ob at hup hset pl2;have HO3:=Ξ O3;clear hb0 hs0 hL0 O3 plt;have HW3:=Ξ hW3;rw [hW3] at d4b d1b hup pl2;clear hW3;go_region
 go_wp2_with fail;go_ret2;have hO:Only [bo] W3 (ChangeMaps.setBlock W3.drew bo ob):=((Ω [bo] W3).drew).trans setBlock_only (by simp);rw [←HW3.out];have hf:∀ o∈D.op,o.n≠D.begun+1:=fun o ho=>by have:=(HH.out.fine.ops o ho).2.1;omega
 have hm:=hset.out;rw [up_freshP _ _ _ hf] at hm;have hsz:w.heap.size≤w2.heap.size:=K1.out.size;have r1:Row W3 (w2.heap.size+1) #[.int .u64 D.last,.map (some w2.heap.size)] tPx:=by have:=Φ (w2.alloc (.map #[] 0)) #[.int .u64 D.last,.map (some w2.heap.size)] tPx;rw [show (w2.alloc (.map #[] 0)).heap.size=w2.heap.size+1 by simp] at this;rw [HW3.out];exact this
 have r2:MapAt W3 w2.heap.size .u64 (wrL []):=by rw [HW3.out];exact (MapAt.made w2 .u64).only ((Ω [] _).alloc _) (by simp)
 have n1:∀ b,b∈D.own p ba bo→b<w2.heap.size:=fun b hb=>Nat.lt_of_lt_of_le (HH.out.lt b hb) hsz;have n2:∀ b,b∈D.reads→b<w2.heap.size:=fun b hb=>Nat.lt_of_lt_of_le (HH.out.ltr b hb) hsz;have nb:bo<w2.heap.size:=n1 bo (by simp [PDB.own]);have M3:=M1.out.only HO3.out (by simp);have hBB:=HB.out;refine ⟨w2.heap.size+1,w2.heap.size,_,rfl,⟨ba,bo,?_,rfl,by simp [PDB.reads,beginP,wrB]⟩,?_,?_⟩
 ·refine M3.opened (o:=⟨D.begun+1,D.last,w2.heap.size+1,w2.heap.size,[]⟩) hO ?_ ?_ ?_ rfl ⟨fun hh=>by have h1:w2.heap.size+1<w2.heap.size:=n1 _ hh;omega,fun hh=>by have h1:w2.heap.size+1<w2.heap.size:=n2 _ hh;omega⟩ ⟨fun hh=>by have h1:w2.heap.size<w2.heap.size:=n1 _ hh;omega,fun hh=>by have h1:w2.heap.size<w2.heap.size:=n2 _ hh;omega⟩ (by simp) (by show B≤w2.heap.size+1;omega) (by show B≤w2.heap.size;omega) ⟨by show 0<D.begun+1;omega,Int.le_refl _,HH.out.fine.last.1,Int.le_refl _⟩
  ·show MapAt _ _ _ (pxL (D.op++_));rw [pxL_append];exact hm
  ·exact r1.only hO (by simp;omega)
  ·exact r2.only hO (by simp;omega)
 ·refine ((K1.out.mono (G:=D.own p ba bo) (by simp [PDB.own])).trans HO3.out (by simp)).trans hO (by simp [PDB.own])
 ·intro b hb;simp only [PDB.own,beginP,pxB_append,List.mem_cons,List.mem_append] at hb ⊢;rcases hb with rfl|rfl|rfl|hb|hb
  ·exact .inl (.inl rfl)
  ·exact .inl (.inr (.inl rfl))
  ·exact .inl (.inr (.inr (.inl rfl)))
  ·exact .inl (.inr (.inr (.inr hb)))
  ·simp [pxB] at hb;rcases hb with rfl|rfl<;>exact .inr (by omega)
theorem infoI32:(prog.info? 21).map (fun i=>(i.zero,i.size,i.bytes))=some (some (.int .i32 0),1,4):=by kernel_rfl
theorem infoU8:(prog.info? 5).map (fun i=>(i.zero,i.size,i.bytes))=some (some (.int .u8 0),1,1):=by kernel_rfl
def CopyTo(q:IntKind)(xs:List Int)(w:World)(e:Ending)(w':World):Prop:=∃ s:Sl,e=.returned s.v∧s.xs=xs∧SlAt q w' s∧(∀ b∈s.bs,w.heap.size≤b)∧Below w.heap.size w w'
theorem SlAt.of_own{q:IntKind}{w:World}{B n:Nat}{e:TypeId}{v:Value}{xs:List Int}(h:w.ownsRow B e 1 v n (xs.map (Value.int q)))(hn:xs.length≤1000000):∃ s:Sl,v=s.v∧s.xs=xs∧SlAt q w s∧∀ b∈s.bs,B≤b:=by
 have hl:=h.1;simp only [List.length_map,Nat.mul_one] at hl;have hi:=ints_own h;have hlt:=h.lt;rcases h.2 with ⟨rfl,h0⟩|⟨g,cap,cur,rfl,_,hgh,hc,_⟩
 ·have hx:xs=[]:=List.length_eq_zero_iff.1 (by omega);subst hx;exact ⟨Sl.no,rfl,rfl,SlAt.no q w,by simp [Sl.bs,Sl.no]⟩
 ·refine ⟨⟨some ⟨g,0,none⟩,cap,xs⟩,by simp [Sl.v,hl],rfl,⟨by simpa [Sl.v,hl] using hi,fun b hb=>?_,by simp,hn,fun b hb=>?_⟩,fun b hb=>?_⟩
  ·simp [Sl.bs] at hb;subst hb;exact (hlt _ rfl).2
  ·simp [Sl.bs] at hb;subst hb;exact ⟨_,_,hgh⟩
  ·simp [Sl.bs] at hb;subst hb;exact (hlt _ rfl).1
theorem clone_i32{s:Sl}{w:World}(h:SlRd .i32 w s):Calls prog 249 #[s.v] w (CopyTo .i32 s.xs w):=by
 cases ha:s.a with
 | none=>
  obtain ⟨e1,e2⟩:=h.nn ha;have es:s.v=.slice none 0 0:=by simp [Sl.v,ha,e1,e2]
  have ex:=Ξ e1;rw [es];clear h e1 e2 es ha;have qT:∀ w:World,(binOp .eql 35 (.slice none 0 0) (.slice none 0 0)).run prog w=.ok (.bool true) w:=fun w=>by kernel_rfl
  go_enter func249,ntmps249;go_wp2_with fail;go_ret;exact ⟨Sl.no,rfl,ex.out.symm,SlAt.no _ _,by simp [Sl.bs,Sl.no],Δ _ _⟩
 | some ad=>
  have hs:=Ξ h.src;have hle:=Ξ h.le;have es:s.v=.slice (some ad) s.xs.length s.c:=by simp [Sl.v,ha]
  rw [es] at hs ⊢;clear h es ha;obtain ⟨i0,hi,hz0,hz1,hz2⟩:=info_parts infoI32;generalize s.xs=xs at *;generalize s.c=c at *;obtain ⟨m,hm⟩:∃ m,xs.length=m:=⟨_,rfl⟩;have HM:=Ξ hm;rw [hm] at hs hle ⊢;clear hm;have qT:∀ w:World,(binOp .eql 35 (.slice (some ad) m c) (.slice none 0 0)).run prog w=.ok (.bool false) w:=fun w=>by kernel_rfl
  have EM:Hid (World.ownsRow (w.alloc (.cells #[] 21)) w.heap.size 21 1 (.slice (some ⟨w.heap.size,0,none⟩) 0 0) 0 []):=Ξ (World.ownsRow_lit w #[] 0 (Θ _) (by simp) rfl);go_enter func249,ntmps249;go_wp2_with (at_builtin;refine wpList_append_src rfl (.tmp 5) (.tmp 6) 35 rfl w.heap.size 21 i0 (.int .i32 0) 1 4 underlying35 hi hz0 hz1 hz2 rfl (by decide) _ 0 [] rfl EM.out _ m (xs.map (Value.int .i32)) rfl (hs.out.below ((Δ _ _).alloc (Θ _) _)) (by simp [Value.oneCell']) (by have:=hle.out;unfold maxLen;omega) (by have:=hle.out;omega) (by simp) ?_;intro v' w' hown' hgrow);go_ret;rw [Nat.zero_add,List.nil_append] at hown';obtain ⟨s2,e1,e2,e3,e4⟩:=SlAt.of_own hown' (by rw [HM.out];exact hle.out);exact ⟨s2,by rw [←e1];rfl,e2,e3,e4,((Δ _ _).alloc (Θ _) _).grown hgrow (by simp) (fun k hk=>by simp [Act.eval,Value.ownBlock] at hk;omega)⟩
theorem clone_u8{s:Sl}{w:World}(h:SlRd .u8 w s):Calls prog 168 #[s.v] w (CopyTo .u8 s.xs w):=by
 cases ha:s.a with
 | none=>
  obtain ⟨e1,e2⟩:=h.nn ha;have es:s.v=.slice none 0 0:=by simp [Sl.v,ha,e1,e2]
  have ex:=Ξ e1;rw [es];clear h e1 e2 es ha;have qT:∀ w:World,(binOp .eql 30 (.slice none 0 0) (.slice none 0 0)).run prog w=.ok (.bool true) w:=fun w=>by kernel_rfl
  go_enter func168,ntmps168;go_wp2_with fail;go_ret;exact ⟨Sl.no,rfl,ex.out.symm,SlAt.no _ _,by simp [Sl.bs,Sl.no],Δ _ _⟩
 | some ad=>
  have hs:=Ξ h.src;have hle:=Ξ h.le;have es:s.v=.slice (some ad) s.xs.length s.c:=by simp [Sl.v,ha]
  rw [es] at hs ⊢;clear h es ha;obtain ⟨i0,hi,hz0,hz1,hz2⟩:=info_parts infoU8;generalize s.xs=xs at *;generalize s.c=c at *;obtain ⟨m,hm⟩:∃ m,xs.length=m:=⟨_,rfl⟩;have HM:=Ξ hm;rw [hm] at hs hle ⊢;clear hm;have qT:∀ w:World,(binOp .eql 30 (.slice (some ad) m c) (.slice none 0 0)).run prog w=.ok (.bool false) w:=fun w=>by kernel_rfl
  have EM:Hid (World.ownsRow (w.alloc (.cells #[] 5)) w.heap.size 5 1 (.slice (some ⟨w.heap.size,0,none⟩) 0 0) 0 []):=Ξ (World.ownsRow_lit w #[] 0 (Θ _) (by simp) rfl);go_enter func168,ntmps168;go_wp2_with (at_builtin;refine wpList_append_src rfl (.tmp 5) (.tmp 6) 30 rfl w.heap.size 5 i0 (.int .u8 0) 1 1 underlying30 hi hz0 hz1 hz2 rfl (by decide) _ 0 [] rfl EM.out _ m (xs.map (Value.int .u8)) rfl (hs.out.below ((Δ _ _).alloc (Θ _) _)) (by simp [Value.oneCell']) (by have:=hle.out;unfold maxLen;omega) (by have:=hle.out;omega) (by simp) ?_;intro v' w' hown' hgrow);go_ret;rw [Nat.zero_add,List.nil_append] at hown';obtain ⟨s2,e1,e2,e3,e4⟩:=SlAt.of_own hown' (by rw [HM.out];exact hle.out);exact ⟨s2,by rw [←e1];rfl,e2,e3,e4,((Δ _ _).alloc (Θ _) _).grown hgrow (by simp) (fun k hk=>by simp [Act.eval,Value.ownBlock] at hk;omega)⟩
def OwnTo(key:Int)(xs ys:List Int)(w:World)(e:Ending)(w':World):Prop:=∃ va ta:Sl,e=.returned (.agg #[.int .u64 key,va.v,ta.v])∧va.xs=xs∧ta.xs=ys∧SlAt .i32 w' va∧SlAt .u8 w' ta∧(∀ b∈va.bs++ta.bs,w.heap.size≤b)∧Below w.heap.size w w'
theorem results_item{fn:Func}{p:Tmp}(h:fn.results=#[.cell p tIt])(tmps:Array Value)(w:World)(g:Nat)(R:Array Value)(hR:R.size=3)(hp:tmps.getD p undef=.pointer (some ⟨g,0,none⟩))(hg:Row w g R tIt):(results fn tmps).run prog w=.ok (.agg R) w:=
 results_cell_row h tmps w g _ _ _ _ hp hg underlying37 rfl (by rw [show (prog.info? tIt).map (·.size)=some 3 from by kernel_rfl,hR])
theorem own_on{key:Int}{va ta:Sl}{w:World}(h1:SlRd .i32 w va)(h2:SlRd .u8 w ta):Calls prog 241 #[.agg #[.int .u64 key,va.v,ta.v]] w (OwnTo key va.xs ta.xs w):=by
 have C1:Hid (∀ y,Only [] w y→Calls prog 249 #[va.v] y (CopyTo .i32 va.xs y)):=Ξ fun y k=>clone_i32 (h1.only k (by simp));have C2:Hid (∀ y,Only [] w y→Calls prog 168 #[ta.v] y (CopyTo .u8 ta.xs y)):=Ξ fun y k=>clone_u8 (h2.only k (by simp));obtain ⟨v1,hv1⟩:∃ v1,va.v=v1:=⟨_,rfl⟩;obtain ⟨v2,hv2⟩:∃ v2,ta.v=v2:=⟨_,rfl⟩;have s1:∃ a n c,v1=.slice a n c:=⟨_,_,_,hv1.symm⟩;have s2:∃ a n c,v2=.slice a n c:=⟨_,_,_,hv2.symm⟩;rw [hv1] at C1 ⊢;rw [hv2] at C2 ⊢;generalize va.xs=xs at *;generalize ta.xs=ys at *;clear h1 h2 hv1 hv2;obtain ⟨a1,n1,c1,rfl⟩:=s1;obtain ⟨a2,n2,c2,rfl⟩:=s2;go_enter func241,ntmps241;go_upto_region 1 with fail;have R1:Hid (Row ((w.alloc (.cells #[.int .u64 key,.slice a1 n1 c1,.slice a2 n2 c2] tIt)).alloc (.cells #[.int .u64 0,.slice none 0 0,.slice none 0 0] tIt)) w.heap.size #[.int .u64 key,.slice a1 n1 c1,.slice a2 n2 c2] tIt):=Ξ ((Φ w _ _).only ((Ω [] _).alloc _) (by simp));have R2:Hid (Row ((w.alloc (.cells #[.int .u64 key,.slice a1 n1 c1,.slice a2 n2 c2] tIt)).alloc (.cells #[.int .u64 0,.slice none 0 0,.slice none 0 0] tIt)) (w.heap.size+1) #[.int .u64 0,.slice none 0 0,.slice none 0 0] tIt):=Ξ (by have h:=Φ (w.alloc (.cells #[.int .u64 key,.slice a1 n1 c1,.slice a2 n2 c2] tIt)) #[.int .u64 0,.slice none 0 0,.slice none 0 0] tIt;rw [World.size_alloc] at h;exact h)
 have K0:Hid (Only [] w ((w.alloc (.cells #[.int .u64 key,.slice a1 n1 c1,.slice a2 n2 c2] tIt)).alloc (.cells #[.int .u64 0,.slice none 0 0,.slice none 0 0] tIt))):=Ξ (((Ω [] w).alloc _).alloc _);generalize (w.alloc (.cells #[.int .u64 key,.slice a1 n1 c1,.slice a2 n2 c2] tIt)).alloc (.cells #[.int .u64 0,.slice none 0 0,.slice none 0 0] tIt)=w1 at *;have KD:Only [] w w1.drew:=K0.out.drew;have SO:Hid (∀ y,Only [w.heap.size+1] w1 y→y.cell? ⟨w.heap.size,0,none⟩=some (.int .u64 key)∧y.cell? ⟨w.heap.size,1,none⟩=some (.slice a1 n1 c1)∧y.cell? ⟨w.heap.size,2,none⟩=some (.slice a2 n2 c2)):=Ξ fun y k=>⟨(R1.out.only k (by simp)).cell 0,(R1.out.only k (by simp)).cell 1,(R1.out.only k (by simp)).cell 2⟩;have B0:Hid (w.heap.size≤w1.drew.heap.size):=Ξ (by have:=K0.out.size;simpa using this);go_region_held3 (fun y=>y.cell? ⟨w.heap.size,0,none⟩=some (.int .u64 key)∧y.cell? ⟨w.heap.size,1,none⟩=some (.slice a1 n1 c1)∧y.cell? ⟨w.heap.size,2,none⟩=some (.slice a2 n2 c2))
  (first
   | exact SO.out _ ((((X3.out.mono (by simp)).setCell (.inl (by simp)) _).setCell (.inl (by simp)) _).setCell (.inl (by simp)) _)
   | exact SO.out _ (X3.out.mono (by simp))
   | exact SO.out _ (X1.out.mono (by simp))
   | exact SO.out _ (X2.out.mono (by simp))
   | exact SO.out _ ((Ω [] w1).drew.mono (by simp)))
  (first
   | ((with_reducible refine (C1.out w1.drew KD).mono ?_);rintro _ x1 ⟨s1,rfl,e1,m,g1,b⟩;have X1:=Ξ ((Ω [] w1).drew.below b);have K1:Only [] w x1:=K0.out.trans X1.out (by simp);have M1:=Ξ m;have E1:=Ξ e1;have G1:=Ξ g1;clear m e1 g1 b;unfold Sl.v)
   | ((with_reducible refine (C2.out x1 K1).mono ?_);rintro _ x3 ⟨s2,rfl,e1,m,g1,b⟩;have X3:=Ξ (X1.out.trans ((Ω [] x1).below b) (by simp));have N1:=Ξ (M1.out.only ((Ω [] x1).below b) (by simp));have N2:=Ξ m;have E2:=Ξ e1;have G2:Hid (∀ b∈s2.bs,w1.heap.size≤b):=Ξ (fun i hi=>Nat.le_trans X1.out.size (g1 i hi));have G3:Hid (∀ b∈s1.bs,w1.heap.size≤b):=Ξ (fun i hi=>G1.out i hi);have RX:=Ξ (R2.out.only X3.out (by simp));clear e1 g1;unfold Sl.v;have r0:=RX.out.c 0 (.int .u64 0);have r1:=RX.out.c 1 (.slice none 0 0);have r2:=RX.out.c 2 (.slice none 0 0);have q0:=RX.out.free 0;have q1:=RX.out.free 1;have q2:=RX.out.free 2;clear m b)
   | ((with_reducible refine (C2.out w1.drew KD).mono ?_);rintro _ x2 ⟨s2,rfl,e1,m,g1,b⟩;have X2:=Ξ ((Ω [] w1).drew.below b);have K2:Only [] w x2:=K0.out.trans X2.out (by simp);have M2:=Ξ m;have E2:=Ξ e1;have G1:=Ξ g1;clear m e1 g1 b;unfold Sl.v)
   | ((with_reducible refine (C1.out x2 K2).mono ?_);rintro _ x3 ⟨s1,rfl,e1,m,g1,b⟩;have X3:=Ξ (X2.out.trans ((Ω [] x2).below b) (by simp));have N2:=Ξ (M2.out.only ((Ω [] x2).below b) (by simp));have N1:=Ξ m;have E1:=Ξ e1;have G3:Hid (∀ b∈s1.bs,w1.heap.size≤b):=Ξ (fun i hi=>Nat.le_trans X2.out.size (g1 i hi));have G2:Hid (∀ b∈s2.bs,w1.heap.size≤b):=Ξ (fun i hi=>G1.out i hi);have RX:=Ξ (R2.out.only X3.out (by simp));clear e1 g1;unfold Sl.v;have r0:=RX.out.c 0 (.int .u64 0);have r1:=RX.out.c 1 (.slice none 0 0);have r2:=RX.out.c 2 (.slice none 0 0);have q0:=RX.out.free 0;have q1:=RX.out.free 1;have q2:=RX.out.free 2;clear m b))
 all_goals
  clear r0 r1 r2 q0 q1 q2;go_wp2_with fail;refine bodyPost_ret (results_item rfl _ _ (w.heap.size+1) #[.int .u64 key,s1.v,s2.v] rfl rfl ?_) rfl ?_
  ·have h:=((RX.out.set 0 (.int .u64 key)).set 1 s1.v).set 2 s2.v;simp at h;exact h
  ·have ko:Only [w.heap.size+1] x3 (((x3.setCell ⟨w.heap.size+1,0,none⟩ (.int .u64 key)).setCell ⟨w.heap.size+1,1,none⟩ s1.v).setCell ⟨w.heap.size+1,2,none⟩ s2.v):=(((Ω _ x3).setCell (.inl (by simp)) _).setCell (.inl (by simp)) _).setCell (.inl (by simp)) _;have hl:=R2.out.lt;have hw:=K0.out.size;refine ⟨s1,s2,rfl,E1.out,E2.out,N1.out.only ko ?_,N2.out.only ko ?_,?_,((K0.out.trans X3.out (by simp)).trans (ko.mono (G:=[w.heap.size+1]) (by simp)) (by simp)).toBelow (Θ _) (by simp)⟩
   ·intro b hb;have:=G3.out b hb;simp;omega
   ·intro b hb;have:=G2.out b hb;simp;omega
   ·intro b hb;rcases List.mem_append.1 hb with hb|hb
    ·have:=G3.out b hb;omega
    ·have:=G2.out b hb;omega
def upV(k:Int)(v:Ver):List (Int×Ver)→List (Int×Ver)
 | []=>[(k,v)]
 | x :: l=>if k=x.1 then (k,v) :: l else x :: upV k v l
theorem up_wrL(k:Int)(v:Ver):∀ l,up k v.val (wrL l)=wrL (upV k v l)
 | []=>rfl
 | x :: l=>by
  have ih:=up_wrL k v l;unfold wrL at ih ⊢;simp only [List.map_cons,up,upV];by_cases h:k=x.1
  ·rw [if_pos h,if_pos h];simp [h]
  ·rw [if_neg h,if_neg h,ih];rfl
theorem mem_upV{k:Int}{v:Ver}{y:Int×Ver}:∀ {l},y∈upV k v l→y=(k,v)∨y∈l
 | [],h=>.inl (by simpa [upV] using h)
 | x :: l,h=>by
  unfold upV at h;split at h
  ·rcases List.mem_cons.1 h with h|h
   ·exact .inl h
   ·exact .inr (List.mem_cons_of_mem _ h)
  ·rcases List.mem_cons.1 h with h|h
   ·exact .inr (by rw [h];exact List.mem_cons_self ..)
   ·rcases mem_upV h with h|h
    ·exact .inl h
    ·exact .inr (List.mem_cons_of_mem _ h)
def wroteP(D:PDB)(n k:Int)(v:Ver):PDB:={ D with op:=D.op.map fun o=>if o.n=n then { o with wr:=upV k v o.wr } else o }
theorem eq_of_map{α:Type}{f:α→Int}:∀ {l:List α} {x y:α},(l.map f).Nodup→x∈l→y∈l→f x=f y→x=y
 | a :: l,x,y,hn,hx,hy,h=>by
  simp only [List.map_cons,List.nodup_cons] at hn;rcases List.mem_cons.1 hx with rfl|hx'<;>rcases List.mem_cons.1 hy with rfl|hy'
  ·rfl
  ·exact absurd (List.mem_map.2 ⟨y,hy',h.symm⟩) hn.1
  ·exact absurd (List.mem_map.2 ⟨x,hx',h⟩) hn.1
  ·exact eq_of_map hn.2 hx' hy' h
theorem DbAt.ops_nodup{w:World}{B p ba bo:Nat}{D:PDB}(h:DbAt w B p ba bo D):(D.op.map (·.n)).Nodup:=by have:=h.om.nodup;unfold pxL at this;rw [List.map_map] at this;exact this
theorem wroteP_own(D:PDB)(n k:Int)(v:Ver)(p ba bo:Nat):(wroteP D n k v).own p ba bo=D.own p ba bo:=by
 unfold PDB.own wroteP pxB;congr 3;rw [List.flatMap_map];refine congrArg (fun f=>List.flatMap f D.op) (funext fun o=>?_);by_cases e:o.n=n
 ·simp [e]
 ·simp [e]
theorem wroteP_px(D:PDB)(n k:Int)(v:Ver):pxL (wroteP D n k v).op=pxL D.op:=by
 unfold pxL wroteP;rw [List.map_map];refine List.map_congr_left fun o _=>?_;simp only [Function.comp_apply];by_cases e:o.n=n
 ·simp [e]
 ·simp [e]
theorem px_apart{l:List PTx}(hn:(pxB l).Nodup){o x:PTx}(ho:o∈l)(hx:x∈l):o.bm≠x.bt∧(x≠o→o.bm≠x.bm):=by
 induction l with
 | nil=>simp at ho
 | cons a l ih=>
  have e:pxB (a :: l)=a.bt :: a.bm :: pxB l:=by simp [pxB]
  rw [e,List.nodup_cons,List.nodup_cons] at hn;simp only [List.mem_cons,not_or] at hn;obtain ⟨⟨n1,n2⟩,n3,n4⟩:=hn;rcases List.mem_cons.1 ho with rfl|ho'<;>rcases List.mem_cons.1 hx with rfl|hx'
  ·exact ⟨fun e=>n1 e.symm,fun hh=>absurd rfl hh⟩
  ·exact ⟨fun e=>n3 (e ▸ (mem_pxB hx').1),fun _ e=>n3 (e ▸ (mem_pxB hx').2)⟩
  ·exact ⟨fun e=>n2 (e ▸ (mem_pxB ho').2),fun _ e=>n3 (e ▸ (mem_pxB ho').2)⟩
  ·exact ih n4 ho' hx'
theorem DbAt.wrote{w w':World}{B p ba bo:Nat}{D:PDB}{o:PTx}{k:Int}{v:Ver}(h:DbAt w B p ba bo D)(ho:o∈D.op)(kO:Only [o.bm] w w')(hm:MapAt w' o.bm .u64 (wrL (upV k v o.wr)))(hv:VerAt w' v)(hB:∀ b∈v.bs,B≤b)(hap:∀ b∈v.bs,b∉D.own p ba bo) :
  DbAt w' B p ba bo (wroteP D o.n k v)∧∀ b∈(wroteP D o.n k v).reads,b∈D.reads∨b∈v.bs:=by
 obtain ⟨a1,a2,a3,a4⟩:=own_apart h.nd;have hnd:=h.ops_nodup;have hpn:(pxB D.op).Nodup:=by have:=h.nd;simp only [PDB.own,List.nodup_cons] at this;exact this.2.2.2
 have hob:o.bm∈D.own p ba bo:=by simp [PDB.own,(mem_pxB ho).2]
 have k1:∀ b,b∈D.reads→b∉[o.bm]:=fun b hb=>by simp;rintro rfl;exact h.ap _ hob hb
 have hrd:∀ b∈(wroteP D o.n k v).reads,b∈D.reads∨b∈v.bs:=by
  intro b hb;rcases List.mem_append.1 hb with hb|hb
  ·exact .inl (List.mem_append_left _ hb)
  ·obtain ⟨x,hx,hb⟩:=List.mem_flatMap.1 hb;obtain ⟨x0,hx0,rfl⟩:=List.mem_map.1 hx;obtain ⟨y,hy,hb⟩:=List.mem_flatMap.1 hb;split at hy
   ·rcases mem_upV hy with rfl|hy
    ·exact .inr hb
    ·exact .inl (mem_reads2 hx0 hy hb)
   ·exact .inl (mem_reads2 hx0 hy hb)
 have bm4:=a4 _ (mem_pxB ho).2;refine ⟨⟨h.row.only kO (by simp;exact fun e=>bm4.1 e.symm),h.am.only kO (by simp;exact fun e=>bm4.2.1 e.symm),by rw [wroteP_px];exact h.om.only kO (by simp;exact fun e=>bm4.2.2 e.symm),?_,fun x hx=>(h.vsd x hx).only kO fun b hb=>k1 b (List.mem_append_left _ (List.mem_flatMap.2 ⟨x,hx,hb⟩)),?_,by rw [wroteP_own];exact h.nd,by rw [wroteP_own];exact h.ge,?_,?_,⟨h.fine.dim,h.fine.begun,h.fine.last,?_⟩⟩,hrd⟩
 ·intro x hx;obtain ⟨x0,hx0,rfl⟩:=List.mem_map.1 hx;have ap:=px_apart hpn ho hx0;by_cases e:x0.n=o.n
  ·have:x0=o:=eq_of_map hnd hx0 ho e;subst this;simp only [if_pos];exact ⟨(h.oa x0 hx0).1.only kO (by simp;exact fun e=>ap.1 e.symm),hm⟩
  ·simp only [if_neg e];have hne:x0≠o:=fun hh=>e (by rw [hh]);exact ⟨(h.oa x0 hx0).1.only kO (by simp;exact fun e=>ap.1 e.symm),(h.oa x0 hx0).2.only kO (by simp;exact fun e=>ap.2 hne e.symm)⟩
 ·intro x hx y hy;obtain ⟨x0,hx0,rfl⟩:=List.mem_map.1 hx;split at hy
  ·rcases mem_upV hy with rfl|hy
   ·exact hv
   ·exact (h.wrd x0 hx0 y hy).only kO fun b hb=>k1 b (mem_reads2 hx0 hy hb)
  ·exact (h.wrd x0 hx0 y hy).only kO fun b hb=>k1 b (mem_reads2 hx0 hy hb)
 ·intro b hb;rcases hrd b hb with hb|hb
  ·exact h.gr b hb
  ·exact hB b hb
 ·rw [wroteP_own];intro b hb hr;rcases hrd b hr with hr|hr
  ·exact h.ap b hb hr
  ·exact hap b hr hb
 ·intro x hx;obtain ⟨x0,hx0,rfl⟩:=List.mem_map.1 hx;have:=h.fine.ops x0 hx0;split
  ·exact this
  ·exact this
def PutTo(B p:Nat)(D:PDB)(n key:Int)(xs ys:List Int)(F H:List Nat)(w:World)(e:Ending)(w':World):Prop:=∃ (v:Ver) (H':List Nat),e=.returned (.int .i64 0)∧v.at_=0∧v.gone=false∧v.key=key∧v.vec.xs=xs∧v.tag.xs=ys∧DbF w' B p (wroteP D n key v) F H'∧Only F w w'∧Kept H H' w
theorem put_on{w:World}{B p:Nat}{D:PDB}{F H:List Nat}{n key:Int}{o:PTx}{va ta:Sl}(h:DbF w B p D F H)(hB:B≤w.heap.size)(ho:findP n D.op=some o)(h1:SlRd .i32 w va)(h2:SlRd .u8 w ta)(hd:(va.xs.length:Int)=D.dim)(ht:ta.xs.length≤1024) :
  Calls prog 234 #[.pointer (some ⟨p,0,none⟩),.int .u64 n,.agg #[.int .u64 key,va.v,ta.v]] w (PutTo B p D n key va.xs ta.xs F H w):=by
 obtain ⟨ba,bo,h,rfl,rfl⟩:=h;obtain ⟨hom,rfl⟩:=findP_some ho;have hdim:=h.fine.dim;have FI:Hid (∀ y,Only [] w y→Calls prog 237 #[.pointer (some ⟨p,0,none⟩),.int .u64 o.n] y fun e w'=>e=.returned (.tuple #[.pointer (some ⟨o.bt,0,none⟩),.int .i64 0])∧w'=y):=Ξ fun y k=>find_yes (h.only k (by simp)) ho;have IM:Hid (∀ y:World,Calls prog 112 #[.agg #[.int .u64 key,va.v,ta.v]] y fun e w'=>e=.returned (.int .i64 0)∧Below y.heap.size y w'):=Ξ fun y=>item_ok (by omega) (by omega) ht;have OW:Hid (∀ y,Only [] w y→Calls prog 241 #[.agg #[.int .u64 key,va.v,ta.v]] y (OwnTo key va.xs ta.xs y)):=Ξ fun y k=>own_on (h1.only k (by simp)) (h2.only k (by simp));have HH:=Ξ h;have HM:=Ξ hom;have HB:=Ξ hB;have C0:Hid (∀ y,Only [] w y→y.cell? ⟨p,0,none⟩=some (.int .i64 D.dim)∧y.cell? ⟨o.bt,1,none⟩=some (.map (some o.bm))):=Ξ fun y k=>⟨(h.row.only k (by simp)).cell 0,((h.oa o hom).1.only k (by simp)).cell 1⟩;obtain ⟨a1,n1,c1,hv1⟩:∃ a n c,va.v=.slice a n c:=⟨_,_,_,rfl⟩;obtain ⟨a2,n2,c2,hv2⟩:∃ a n c,ta.v=.slice a n c:=⟨_,_,_,rfl⟩;have hn1:n1=va.xs.length:=by unfold Sl.v at hv1;simp only [Value.slice.injEq] at hv1;exact hv1.2.1.symm
 rw [hv1,hv2] at IM OW ⊢;generalize va.xs=xs at *;generalize ta.xs=ys at *;subst hn1;obtain ⟨dim,hdm⟩:∃ dim,D.dim=dim:=⟨_,rfl⟩;rw [hdm] at hd C0;subst hd;clear h ho hom hB h1 h2 hv1 hv2 hdim ht hdm;go_enter func234,ntmps234;go_wp2_with fail;have R1:Hid (Row (w.alloc (.cells #[.int .u64 key,.slice a1 xs.length c1,.slice a2 n2 c2] tIt)) w.heap.size #[.int .u64 key,.slice a1 xs.length c1,.slice a2 n2 c2] tIt):=Ξ (Φ w _ _);have K1:Hid (Only [] w (w.alloc (.cells #[.int .u64 key,.slice a1 xs.length c1,.slice a2 n2 c2] tIt))):=Ξ ((Ω [] w).alloc _);refine (FI.out _ K1.out).mono ?_;rintro _ w2 ⟨rfl,hw⟩;subst w2;generalize w.alloc (.cells #[.int .u64 key,.slice a1 xs.length c1,.slice a2 n2 c2] tIt)=w1 at *;have e1:=R1.out.c 1 (.slice a1 xs.length c1);obtain ⟨e2,_⟩:=C0.out w1 K1.out;go_wp2_with fail;go_quiet (fail)
 have K2:=Ξ (K1.out.drewN nq);have R2:Hid (Row (w1.drewN nq) w.heap.size #[.int .u64 key,.slice a1 xs.length c1,.slice a2 n2 c2] tIt):=Ξ (R1.out.only ((Ω [] _).drewN nq) (by simp));clear e1 e2 R1 K1 FI;generalize w1.drewN nq=w2 at *;have e0:=R2.out.cell 0;have e1:=R2.out.cell 1;have e2:=R2.out.cell 2;simp only [List.getElem?_toArray,List.getElem?_cons_zero,List.getElem?_cons_succ] at e0 e1 e2;go_wp2_with fail;refine (IM.out _).mono ?_;rintro _ w3 ⟨rfl,hb⟩;have K3:=Ξ (K2.out.below hb);have R3:Hid (Row w3 w.heap.size #[.int .u64 key,.slice a1 xs.length c1,.slice a2 n2 c2] tIt):=Ξ (R2.out.only ((Ω [] _).below hb) (by simp));clear e0 e1 e2 hb R2 K2 IM;go_upto_region 9 with fail;have bt_ne:w.heap.size≠o.bm:=fun e=>by have:=HH.out.lt o.bm (by simp [PDB.own,(mem_pxB HM.out).2]);omega
 have SO:Hid (∀ y,Only [o.bm] w3 y→y.cell? ⟨o.bt,1,none⟩=some (.map (some o.bm))∧y.cell? ⟨w.heap.size,0,none⟩=some (.int .u64 key)∧y.cell? ⟨w.heap.size,1,none⟩=some (.slice a1 xs.length c1)∧y.cell? ⟨w.heap.size,2,none⟩=some (.slice a2 n2 c2)):=Ξ fun y k=>by
  have hpn:(pxB D.op).Nodup:=by have:=HH.out.nd;simp only [PDB.own,List.nodup_cons] at this;exact this.2.2.2
  have hr:=(((HH.out.oa o HM.out).1.only K3.out (by simp)).only k (by simp;exact fun e=>(px_apart hpn HM.out HM.out).1 e.symm)).cell 1;have hx:=R3.out.only k (by simpa using bt_ne);exact ⟨hr,hx.cell 0,hx.cell 1,hx.cell 2⟩
 clear bt_ne;go_region_held3 (fun y=>y.cell? ⟨o.bt,1,none⟩=some (.map (some o.bm))∧y.cell? ⟨w.heap.size,0,none⟩=some (.int .u64 key)∧y.cell? ⟨w.heap.size,1,none⟩=some (.slice a1 xs.length c1)∧y.cell? ⟨w.heap.size,2,none⟩=some (.slice a2 n2 c2))
  (first
   | exact SO.out _ ((X4.out.mono (by simp)).trans setBlock_only (by simp))
   | exact SO.out _ (X4.out.mono (by simp))
   | exact SO.out _ ((Ω [] w3).drew.mono (by simp)))
  ((go_at_call 241;refine (OW.out w3.drew (K3.out.drew)).mono ?_;rintro _ w4 ⟨s1,s2,rfl,x1,x2,m1,m2,fr,hb⟩;have X4:=Ξ ((Ω [] w3).drew.below hb);have N1:=Ξ m1;have N2:=Ξ m2;have E1:=Ξ x1;have E2:=Ξ x2;have FR:Hid (∀ b∈s1.bs++s2.bs,w3.heap.size≤b):=Ξ fr;obtain ⟨es,clock,hb0,hs0,hL0⟩:MapAt w4 o.bm .u64 (wrL o.wr):=((HH.out.oa o HM.out).2.only K3.out (by simp)).only X4.out (by simp);have hup:=run_update (P:=prog) (w:=w4) hb0 hL0 underlying283 underlying34 key (Value.agg #[.int .u64 0,.bool false,.int .u64 key,.slice s1.a s1.xs.length s1.c,.slice s2.a s2.xs.length s2.c]);have hset:=Ξ (MapAt.set hb0 hs0 hL0 key (Value.agg #[.int .u64 0,.bool false,.int .u64 key,.slice s1.a s1.xs.length s1.c,.slice s2.a s2.xs.length s2.c]));generalize upObj es clock .u64 key (Value.agg #[.int .u64 0,.bool false,.int .u64 key,.slice s1.a s1.xs.length s1.c,.slice s2.a s2.xs.length s2.c]) (wrL o.wr)=ob at hup hset;clear x1 x2 m1 m2 fr hb hb0 hs0 hL0;unfold Sl.v))
 all_goals
  have KS:Hid (Only [o.bm] w4 (ChangeMaps.setBlock w4 o.bm ob)):=Ξ setBlock_only;have K4:=Ξ (K3.out.trans X4.out (by simp));clear hup;generalize ChangeMaps.setBlock w4 o.bm ob=w5 at *;go_wp2_with fail;go_ret;have hm:=hset.out;have ev:(Value.agg #[.int .u64 0,.bool false,.int .u64 key,.slice s1.a s1.xs.length s1.c,.slice s2.a s2.xs.length s2.c])=(⟨0,false,key,s1,s2⟩:Ver).val:=rfl;rw [ev,up_wrL] at hm;have hlt:=HH.out.lt;have hltr:=HH.out.ltr;have hk3:=K3.out.size;have hbm:o.bm<w.heap.size:=hlt o.bm (by simp [PDB.own,(mem_pxB HM.out).2]);have fr:∀ b∈(⟨0,false,key,s1,s2⟩:Ver).bs,w3.heap.size≤b:=FR.out;obtain ⟨r1,r2⟩:=(HH.out.only K4.out (by simp)).wrote (k:=key) (v:=⟨0,false,key,s1,s2⟩) HM.out KS.out hm ⟨N1.out.only KS.out fun b hb=>by have:=FR.out b (List.mem_append_left _ hb);simp;omega,N2.out.only KS.out fun b hb=>by have:=FR.out b (List.mem_append_right _ hb);simp;omega⟩ (fun b hb=>by have:=fr b hb;have:=HB.out;omega) (fun b hb hh=>by have:=fr b hb;have:=hlt b hh;omega);refine ⟨⟨0,false,key,s1,s2⟩,_,rfl,rfl,rfl,rfl,E1.out,E2.out,⟨ba,bo,r1,(wroteP_own D o.n key _ p ba bo).symm,rfl⟩,(K4.out.mono (by simp)).trans KS.out (by intro b hb;simp at hb;subst hb;exact .inl (by simp [PDB.own,(mem_pxB HM.out).2])),fun b hb=>?_⟩;rcases r2 b hb with hb|hb
  ·exact .inl hb
  ·exact .inr (Nat.le_trans hk3 (fr b hb))
theorem Vs.at_{w:World}{V:Vs}(h:VsAt w V){j:Nat}{x:Ver}(hx:V.vs[j]? = some x):∃ b o,V.a=some ⟨b,o,none⟩∧∀ i,i<5→w.cell? ⟨b,o+(j * 5+i),none⟩=x.cells[i]?:=by
 have hj:=(List.getElem?_eq_some_iff.1 hx).1;rcases h.src with ⟨_,h0,_⟩|⟨ad,c,e,hl,hc⟩
 ·omega
 ·have ha:V.a=some ad:=by unfold Vs.v at e;simp only [Value.slice.injEq] at e;exact e.1
  have hsp:=h.plain ad ha;obtain ⟨b,o,s⟩:=ad;simp only at hsp;subst hsp;refine ⟨b,o,ha,fun i hi=>?_⟩;have hg:=verL_get V.vs j x hx i hi;obtain ⟨u,hu⟩:∃ u,x.cells[i]? = some u:=⟨_,List.getElem?_eq_getElem (by simp [Ver.cells];omega)⟩;rw [hu] at hg ⊢;have:=hc (j * 5+i) u hg
  rwa [add_plain] at this
theorem Below.only{B:Nat}{w w':World}(h:Below B w w'){G:List Nat}(hG:∀ b,B≤b→b<w.heap.size→b∈G):Only G w w':=
 ⟨h.os,h.tape,h.output,h.size,fun i hi hn=>h.block i (Nat.lt_of_not_le fun hb=>hn (hG i hb hi))⟩
theorem VsAt.below{w w':World}{V:Vs}{n0:Nat}(h:VsAt w V)(hb:Below n0 w w')(hV:∀ b∈V.bs,b<n0):VsAt w' V:=
 h.only (G:=(List.range w.heap.size).filter fun b=>decide (n0≤b)) (Below.only hb fun b h1 h2=>by simp [h2,h1]) fun b hb hm=>by have:=hV b hb;simp at hm;omega
def IsBy(xs:List Int):Prop:=∀ x∈xs,0≤x∧x<256
theorem IsBy.at_{xs:List Int}(h:IsBy xs){i:Nat}(hi:i<xs.length):∃ c:Nat,xs[i]? = some (c:Int)∧c<256:=by have h1:=h _ (List.getElem_mem hi);exact ⟨(xs[i]).toNat,by rw [List.getElem?_eq_getElem hi];congr 1;omega,by omega⟩
theorem SlRd.at_{q:IntKind}{w:World}{s:Sl}(h:SlRd q w s){j:Nat}{z:Int}(hz:s.xs[j]? = some z):∃ b o,s.a=some ⟨b,o,none⟩∧∀ i z,s.xs[i]? = some z→w.cell? ⟨b,o+i,none⟩=some (.int q z):=by
 have hj:=(List.getElem?_eq_some_iff.1 hz).1;rcases h.ints with ⟨h1,_⟩|⟨b,off,cap,e,hc⟩
 ·rw [h1] at hj;simp at hj
 ·unfold Sl.v at e;simp only [Value.slice.injEq] at e;exact ⟨b,off,e.1,fun i z hz=>by rw [hc i (List.getElem?_eq_some_iff.1 hz).1,hz];rfl⟩
end Go.Proofs.YtcgmgdjeamidlaaGreat
