/- Texts of one proof, joined. -/
import Derived.Test.YtcgmgdjeamidlaaGreatMg38
import Derived.Test.YtcgmgdjeamidlaaGreatMr41
namespace Go.Proofs.YtcgmgdjeamidlaaGreat
set_option maxRecDepth 100000
set_option maxHeartbeats 16000000
open Go.RowKit Go.ChangeShapes Go.WideShapes Go.ChangeAt Go.Proofs.Tryz
set_option linter.unusedVariables false
set_option linter.unusedSimpArgs false
inductive TellB:List Int→Prop
 | done (m:Int) (h0:0≤m) (h1:m≤7):TellB [1,m]
 | ref (e pl:Int) (e0:1≤e) (e1:e≤255) (e6:e≠6) (p0:0≤pl) (p1:pl<4096):TellB (refB e pl)
 | got (c:Rc) (h:okC c):TellB (gotB c)
 | items (L:List Rc) (h50:L.length≤50) (h:∀ c∈L,okC c):TellB (itemsB L)
 | hits (hs:List (Int×Int)) (h50:hs.length≤50) (h:∀ x∈hs,okH x):TellB (hitsB hs)
theorem in32_mem{xs:List Int}(h:vc.In32 xs):∀ z∈xs,-2147483648≤z∧z<2147483648:=fun z hz=>by obtain ⟨i,hi⟩:=List.mem_iff_getElem?.1 hz;have:=h i;rw [hi] at this;simp at this;omega
theorem RcGd.okc{dim key:Int}{c:Rc}(h:RcGd dim key c)(h1:1≤dim∧dim≤4096):okC c:=by have:=h.len;have h2:=h.keyed;exact ⟨by rw [h2];exact h.k0,by rw [h2];exact h.k1,by omega,by omega,in32_mem h.i32,h.tag,h.by_⟩
theorem readQ_q{b:List Int}(hb:IsBy b)(hk:(readQ b).kind=6):∀ z∈(readQ b).q,-2147483648≤z∧z<2147483648:=by
 have hx:IsBy (fixF 1 b 0).2.1:=fixF_by 1 hb 0;unfold readQ at hk ⊢;simp only at hk ⊢;by_cases k2:(fixF 1 b 0).1=2
 ·rw [if_pos k2] at hk;unfold putC at hk;split at hk<;>cases hk
 rw [if_neg k2] at hk ⊢;by_cases k3:(fixF 1 b 0).1=3∨(fixF 1 b 0).1=4
 ·rw [if_pos k3] at hk;have:(fixF 1 b 0).1=6:=hk;omega
 rw [if_neg k3] at hk ⊢;by_cases k5:(fixF 1 b 0).1=5
 ·rw [if_pos k5] at hk;cases hk
 rw [if_neg k5] at hk ⊢;by_cases k6:(fixF 1 b 0).1=6
 ·rw [if_pos k6];intro z hz;exact (lst32_range _ _ (fixF_by 1 hx _)).1 z hz
 rw [if_neg k6] at hk ⊢;by_cases k10:(fixF 1 b 0).1=10
 ·rw [if_pos k10] at hk;cases hk
 rw [if_neg k10] at hk ⊢;by_cases k11:(fixF 1 b 0).1=11
 ·rw [if_pos k11] at hk;cases hk
 rw [if_neg k11];intro z hz;simp [Qc.bare] at hz
theorem askQ_read{b:List Int}{c:Qc}(h:askQ b=some c):c=readQ b:=by
 unfold askQ at h;split at h
 ·cases h;rfl
 ·cases h
section
variable {t:Nat} {D D':PDB} {u u':Int} {b zs:List Int} {c:Qc}
theorem PutS.tells{ik m:Int}{vec tag:List Int}(h:PutS D u ik vec tag m zs D')(m0:0≤m)(m1:m≤7):TellB zs:=by
 rcases h with ⟨_,rfl,_⟩|⟨o,_,⟨_,rfl,_⟩|⟨_,rfl,_⟩⟩
 ·exact .ref 12 0 (by omega) (by omega) (by omega) (by omega) (by omega)
 ·exact .ref 9 0 (by omega) (by omega) (by omega) (by omega) (by omega)
 ·exact .done m m0 m1
theorem KnnS.tells(hg:Good t D){q:List Int}{n:Int}(h:KnnS D u q n zs)(hq:∀ z∈q,-2147483648≤z∧z<2147483648)(hn:n≤50):TellB zs:=by
 rcases h with ⟨_,rfl⟩|⟨o,ho,⟨_,rfl⟩|⟨hd,L,hL,rfl⟩⟩
 ·exact .ref 12 0 (by omega) (by omega) (by omega) (by omega) (by omega)
 ·exact .ref 9 0 (by omega) (by omega) (by omega) (by omega) (by omega)
 ·refine .hits _ (by rw [vc.firstF_len];unfold vc.askN;omega) fun h hh=>?_;obtain ⟨c2,hc2,rfl⟩:=List.mem_map.1 (hits_in hh);have g:=hg.listed (findP_some ho).1 hL c2 hc2;have hk0:=g.k0;have hk1:=g.k1;have hdim:=hg.dim;have hdist:0≤vc.distF c2.2.1 q∧vc.distF c2.2.1 q<9223372036854775808:=by
   unfold vc.distF;split
   ·have:=vc.distTo_bd c2.2.1 q g.i32 (in32_of hq) c2.2.1.length;omega
   ·omega
  exact ⟨hk0,hk1,hdist.1,hdist.2⟩
theorem step_tells(hg:Good t D)(hb:IsBy b)(h:Step D u b zs D' u'):TellB zs:=by
 unfold Step at h;cases hq:askQ b with
 | none=>
  rw [hq] at h;obtain ⟨rfl,_⟩:=h;exact .ref 4 0 (by omega) (by omega) (by omega) (by omega) (by omega)
 | some c=>
  rw [hq] at h;have mk:=may_kind (askQ_may hq);have hrq:=askQ_read hq;simp only at h;by_cases k:u=0∧c.kind≠1∧c.kind≠9
  ·rw [if_pos k] at h;obtain ⟨rfl,_⟩:=h;exact .ref 12 0 (by omega) (by omega) (by omega) (by omega) (by omega)
  rw [if_neg k] at h;unfold DoQ at h;by_cases k1:c.kind=1
  ·rw [if_pos k1] at h;rcases h with ⟨_,rfl,_⟩|⟨_,⟨_,rfl,_⟩|⟨_,rfl,_⟩⟩
   ·exact .ref 12 0 (by omega) (by omega) (by omega) (by omega) (by omega)
   ·exact .done 0 (by omega) (by omega)
   ·exact .ref 5 0 (by omega) (by omega) (by omega) (by omega) (by omega)
  rw [if_neg k1] at h;by_cases k2:c.kind=2
  ·rw [if_pos k2] at h;exact h.1.tells (by omega) (by omega)
  rw [if_neg k2] at h;by_cases k3:c.kind=3
  ·rw [if_pos k3] at h;rcases h.1 with ⟨_,rfl,_⟩|⟨o,_,⟨_,rfl,_⟩|⟨_,rfl,_⟩⟩
   ·exact .ref 12 0 (by omega) (by omega) (by omega) (by omega) (by omega)
   ·exact .ref 7 0 (by omega) (by omega) (by omega) (by omega) (by omega)
   ·exact .done 0 (by omega) (by omega)
  rw [if_neg k3] at h;by_cases k4:c.kind=4
  ·rw [if_pos k4] at h;rcases h.1 with ⟨_,rfl⟩|⟨o,ho,⟨_,rfl⟩|⟨r,hr,rfl⟩⟩
   ·exact .ref 12 0 (by omega) (by omega) (by omega) (by omega) (by omega)
   ·exact .ref 7 0 (by omega) (by omega) (by omega) (by omega) (by omega)
   ·exact .got r ((hg.seen (findP_some ho).1 hr).okc hg.dim)
  rw [if_neg k4] at h;by_cases k5:c.kind=5
  ·rw [if_pos k5] at h;have hn:=mk.2 (.inl k5);rcases h.1 with ⟨_,rfl⟩|⟨o,ho,L,hL,rfl⟩
   ·exact .ref 12 0 (by omega) (by omega) (by omega) (by omega) (by omega)
   ·exact .items _ (by rw [List.length_take];omega) fun x hx=>(hg.listed (findP_some ho).1 hL x (List.mem_filter.1 (List.mem_of_mem_take hx)).1).okc hg.dim
  rw [if_neg k5] at h;by_cases k6:c.kind=6
  ·rw [if_pos k6] at h;rw [hrq] at k6 h mk;exact h.1.tells hg (readQ_q hb k6) (mk.2 (.inr (.inl k6)))
  rw [if_neg k6] at h;by_cases k7:c.kind=7
  ·rw [if_pos k7] at h;rcases h.1 with ⟨_,rfl,_⟩|⟨o,_,⟨_,rfl,_⟩|⟨_,rfl,_⟩⟩
   ·exact .ref 12 0 (by omega) (by omega) (by omega) (by omega) (by omega)
   ·exact .ref 11 0 (by omega) (by omega) (by omega) (by omega) (by omega)
   ·exact .done 0 (by omega) (by omega)
  rw [if_neg k7] at h;by_cases k8:c.kind=8
  ·rw [if_pos k8] at h;rcases h.1 with ⟨_,rfl,_⟩|⟨_,rfl,_⟩
   ·exact .ref 12 0 (by omega) (by omega) (by omega) (by omega) (by omega)
   ·exact .done 0 (by omega) (by omega)
  rw [if_neg k8] at h;by_cases k9:c.kind=9
  ·rw [if_pos k9] at h;obtain ⟨rfl,_⟩:=h.1;exact .done 0 (by omega) (by omega)
  rw [if_neg k9] at h;obtain ⟨g1,g2,g3,g4,g5,g6,g7⟩:=quF_gd c;have g8:=quF_six c;by_cases k10:c.kind=10
  ·rw [if_pos k10] at h;rcases h.1 with ⟨hz,rfl,_⟩|⟨_,hp⟩
   ·exact .ref _ _ (by omega) (by omega) g8 g6 g7
   ·exact hp.tells g2 g3
  rw [if_neg k10] at h;rcases h.1 with ⟨hz,rfl⟩|⟨_,hp⟩
  ·exact .ref _ _ (by omega) (by omega) g8 g6 g7
  ·exact hp.tells hg g1 (mk.2 (.inr (.inr (by omega))))
end
theorem TellB.by_{zs:List Int}(h:TellB zs):IsBy zs∧zs.length≤1000000:=by
 cases h with
 | done m h0 h1=>exact ⟨by intro x hx;simp at hx;omega,by simp⟩
 | ref e pl e0 e1 e6 p0 p1=>
  unfold refB;exact ⟨((IsBy.one (by omega) (by omega)).append (IsBy.one (by omega) (by omega))).append (leB_by _ _),by simp [leB_len]⟩
 | got c h=>
  unfold gotB;have:=itemB_len h;exact ⟨(IsBy.one (by omega) (by omega)).append (itemB_by h.2.2.2.2.2.2),by simp;omega⟩
 | items L h50 h=>
  unfold itemsB;have h1:∀ c∈L,(textB (itemB c)).length≤17504:=fun c hc=>by have h2:=itemB_len (h c hc);have h3:=uvB_len 3 (itemB c).length (by omega) (by omega);unfold textB;rw [List.length_append];omega
  have h2:=fm_len_le 17504 (fun c=>textB (itemB c)) h1;have h3:=uvB_len 1 L.length (by omega) (by omega);refine ⟨((IsBy.one (by omega) (by omega)).append (uvB_by _)).append fun x hx=>?_,by simp only [List.length_append,List.length_singleton];omega⟩;obtain ⟨c,hc,hx⟩:=List.mem_flatMap.1 hx;exact textB_by (itemB_by (h c hc).2.2.2.2.2.2) x hx
 | hits hs h50 h=>
  unfold hitsB;have h2:=fm_len_le 16 (fun x:Int×Int=>leB x.1 8++leB x.2 8) (l:=hs) (fun x _=>by simp [leB_len]);have h3:=uvB_len 1 hs.length (by omega) (by omega);refine ⟨((IsBy.one (by omega) (by omega)).append (uvB_by _)).append fun x hx=>?_,by simp only [List.length_append,List.length_singleton];omega⟩;obtain ⟨c,hc,hx⟩:=List.mem_flatMap.1 hx;exact ((leB_by _ _).append (leB_by _ _)) x hx
theorem RepTo.reads{k er:Int}{w w':World}{e:Ending}(h:RepTo k er w e w')(he:er≠6):ReadsTo w e w':=by obtain ⟨mk,pl,ky,a1,n1,c1,a2,n2,c2,a3,n3,c3,a4,n4,c4,h1,h2⟩:=h;exact ⟨k,mk,er,pl,ky,a1,a2,a3,a4,n1,n2,n3,n4,c1,c2,c3,c4,h1,he,h2⟩
theorem TellB.reads{zs:List Int}(h:TellB zs){w:World}{sl:Sl}(hr:SlRd .u8 w sl)(hc:sl.xs.length≤sl.c)(hx:sl.xs=zs):Calls prog 59 #[sl.v] w (ReadsTo w):=by
 cases h with
 | done m h0 h1=>
  refine (readtell_done m h0 h1 hr hx).mono ?_;rintro e w' ⟨rfl,hb⟩;exact ⟨1,m,0,0,0,none,none,none,none,0,0,0,0,0,0,0,0,rfl,by omega,hb⟩
 | ref e pl e0 e1 e6 p0 p1=>exact (readtell_refused e0 e1 p0 p1 hr hx).mono fun e w' h=>h.reads e6
 | got c h=>exact (readtell_item h hc hr hx).mono fun e w' h=>h.reads (by omega)
 | items L h50 h=>exact (readtell_items h50 h hr hx).mono fun e w' h=>h.reads (by omega)
 | hits hs h50 h=>exact (readtell_hits h50 h hr hx).mono fun e w' h=>h.reads (by omega)
/-! ### Drop -/
def DropS(D:PDB)(u:Int)(D':PDB):Prop:=(u=0∧D'=D)∨(u≠0∧((findP u D.op=none∧D'=D)∨((∃ o,findP u D.op=some o)∧D'=shutP D u)))
theorem DropS.same{D E D' E':PDB}{u:Int}(h:Sim D E)(h1:DropS D u D')(h2:DropS E u E'):Sim D' E':=by
 rcases h1 with ⟨a1,rfl⟩|⟨a1,a2⟩
 ·rcases h2 with ⟨b1,rfl⟩|⟨b1,b2⟩
  ·exact h
  ·exact absurd a1 b1
 ·rcases h2 with ⟨b1,rfl⟩|⟨b1,b2⟩
  ·exact absurd b1 a1
  ·rcases a2 with ⟨a2,rfl⟩|⟨⟨o,a2⟩,rfl⟩
   ·rcases b2 with ⟨b2,rfl⟩|⟨⟨o',b2⟩,rfl⟩
    ·exact h
    ·rw [h.find_none a2] at b2;cases b2
   ·obtain ⟨o2,c1,_⟩:=h.find_some a2;rcases b2 with ⟨b2,rfl⟩|⟨⟨o',b2⟩,rfl⟩
    ·rw [b2] at c1;cases c1
    ·exact h.shut u
def DroppedTo(t B p ss:Nat)(D:PDB)(u:Int)(F H:List Nat)(w:World)(e:Ending)(w':World):Prop:=∃ D' F' H',e=.returned (.int .i64 0)∧DropS D u D'∧Cx (t+1) B p ss D' 0 F' H' w'∧Only (ss :: F) w w'∧Kp F F' w.heap.size∧Kp H H' w.heap.size
section
variable {t B p ss:Nat} {D:PDB} {u:Int} {F H:List Nat} {w0:World}
theorem drop_on(C:Cx t B p ss D u F H w0)(ht:t+1<300000):Calls prog 20 #[.pointer (some ⟨ss,0,none⟩)] w0 (DroppedTo t B p ss D u F H w0):=by
 have HC:=Ξ C;have HT:=Ξ ht;have K1:Hid (Only [ss] w0 (w0.setCell ⟨ss,1,none⟩ (.int .u64 0))):=Ξ ((Ω [ss] w0).setCell (.inl (by simp)) _);have R1:Hid (Row (w0.setCell ⟨ss,1,none⟩ (.int .u64 0)) ss #[baseV p,.int .u64 0] tSs):=Ξ (by simpa using C.row.set 1 (.int .u64 0));have D1:Hid (DbF (w0.setCell ⟨ss,1,none⟩ (.int .u64 0)) B p D F H):=Ξ (C.db.only K1.out (by intro b hb;simp at hb;subst hb;exact C.ap));have c1:=C.row.c 1 (.int .u64 u);have f1:=C.row.free 1;have d0:=R1.out.c 0 (baseV p);have hm:∀ w:World,(method 454 24 (.pointer (some ⟨p,0,none⟩)) "Abort").run prog w=.ok (227,.pointer (some ⟨p,0,none⟩)) w:=fun _=>by kernel_rfl
 unfold baseV at *;clear C ht;by_cases hu:u=0
 ·subst hu;have N:Hid (DroppedTo t B p ss D 0 F H w0 (.returned (.int .i64 0)) (w0.setCell ⟨ss,1,none⟩ (.int .u64 0))):=Ξ ⟨D,F,H,rfl,.inl ⟨rfl,rfl⟩,⟨D1.out,Nat.le_trans HC.out.base K1.out.size,HC.out.good.mono (by omega),HT.out,R1.out,HC.out.ap⟩,K1.out.mono (by intro i hi;left;simp at hi;simp [hi]),Kp.refl _ _,Kp.refl _ _⟩;go_enter func20,ntmps20;go_wp2_with fail;go_ret;exact N.out
 ·have b0:(u == 0)=false:=by simp [hu]
  have HU:=Ξ hu;clear hu;have AB:Hid (∃ er:Int,(er=0∨er=12)∧Calls prog 227 #[.pointer (some ⟨p,0,none⟩),.int .u64 u] (w0.setCell ⟨ss,1,none⟩ (.int .u64 0)) fun e w'=>e=.returned (.int .i64 er)∧∃ D' F' H',((findP u D.op=none∧D'=D)∨((∃ o,findP u D.op=some o)∧D'=shutP D u))∧Good (t+1) D'∧DbF w' B p D' F' H'∧Only F (w0.setCell ⟨ss,1,none⟩ (.int .u64 0)) w'∧Kept F F' (w0.setCell ⟨ss,1,none⟩ (.int .u64 0))∧Kept H H' (w0.setCell ⟨ss,1,none⟩ (.int .u64 0))):=Ξ (by
   cases ho:findP u D.op with
   | none=>
    obtain ⟨ba,bo,hd,_,_⟩:=D1.out;exact ⟨12,.inr rfl,(abort_no hd ho).mono fun e w' ⟨he,hw⟩=>by subst hw;exact ⟨he,D,F,H,.inl ⟨rfl,rfl⟩,HC.out.good.mono (by omega),D1.out,Ω _ _,Kept.refl _ _,Kept.refl _ _⟩⟩
   | some o=>exact ⟨0,.inl rfl,(abort_on D1.out ho).mono fun e w' ⟨F',H',he,hD,hO,kF,kH⟩=>⟨he,_,F',H',.inr ⟨⟨o,rfl⟩,rfl⟩,HC.out.good.shut u,hD,hO,kF,kH⟩⟩)
  obtain ⟨er,her,hab⟩:=AB.out;have CA:=Ξ hab;clear hab AB;go_enter func20,ntmps20;go_wp2_with fail;refine CA.out.mono ?_;rintro _ w2 ⟨rfl,D',F',H',h1,h2,h3,h4,h5,h6⟩;have N:Hid (DroppedTo t B p ss D u F H w0 (.returned (.int .i64 0)) w2):=Ξ (by have hz:=K1.out.size;have kF:Kp F F' w0.heap.size:=Kp.of h5 hz;have kH:Kp H H' w0.heap.size:=Kp.of h6 hz;have l:=HC.out.lt;have k2:Only (ss :: F) w0 w2:=(K1.out.mono (by intro i hi;left;simp at hi;simp [hi])).trans h4 (by intro i hi;left;exact List.mem_cons_of_mem _ hi);exact ⟨D',F',H',rfl,.inr ⟨HU.out,h1⟩,⟨h3,Nat.le_trans HC.out.base k2.size,h2,HT.out,R1.out.only h4 HC.out.ap.1,⟨fun hm=>(kF ss hm).elim HC.out.ap.1 (by omega),fun hm=>(kH ss hm).elim HC.out.ap.2 (by omega)⟩⟩,k2,kF,kH⟩)
  clear h1 h2 h3 h4 h5 h6;rcases her with rfl|rfl
  ·go_wp2_with fail;go_ret;exact N.out
  ·go_wp2_with fail;go_ret;exact N.out
end
/-! ### the server -/
def DbS(B p:Nat)(sb:List Nat)(m:Nat):Serve (Nat×PDB×List Int) where
 I:=fun x F w=>∃ F1 H1,DbF w B p x.2.1 F1 H1∧B≤w.heap.size∧Good x.1 x.2.1∧x.2.2.length=sb.length∧(∀ (i b:Nat) (u:Int),sb[i]? = some b→x.2.2[i]? = some u→Row w b #[baseV p,.int .u64 u] tSs)∧(∀ b∈sb,b∉F1∧b∉H1)∧F=sb++(F1++H1)
 can:=fun x q=>x.1+1<300000
 step:=fun x q x' zs=>∃ u u',x.2.2[m]? = some u∧Step x.2.1 u q zs x'.2.1 u'∧x'.1=x.1+1∧x'.2.2=x.2.2.set m u'∧TellB zs
 drop:=fun x x'=>∃ u,x.2.2[m]? = some u∧DropS x.2.1 u x'.2.1∧x'.1=x.1+1∧x'.2.2=x.2.2.set m 0
 ends:=fun x=>x.1+1<300000
theorem dbS_next{B p:Nat}{sb:List Nat}{m ss:Nat}{t:Nat}{D':PDB}{us:List Int}{u':Int}{F1 H1 F' H':List Nat}{w w':World}(hss:sb[m]? = some ss)(hnd:sb.Nodup)(hlen:us.length=sb.length)(hrow:∀ (i b:Nat) (u:Int),sb[i]? = some b→us[i]? = some u→Row w b #[baseV p,.int .u64 u] tSs)(hap:∀ b∈sb,b∉F1∧b∉H1)
  (hC:Cx (t+1) B p ss D' u' F' H' w') (hO:Only (ss :: F1) w w') (kF:Kp F1 F' w.heap.size) (kH:Kp H1 H' w.heap.size) (m':Nat):(DbS B p sb m').I (t+1,D',us.set m u') (sb++(F'++H')) w':=by
 have hsm:ss∈sb:=List.mem_of_getElem? hss;have lts:∀ b∈sb,b<w.heap.size:=fun b hb=>by obtain ⟨i,hi⟩:=List.mem_iff_getElem?.1 hb;have hil:=(List.getElem?_eq_some_iff.1 hi).1;exact (hrow i b us[i] hi (List.getElem?_eq_getElem (by omega))).lt
 refine ⟨F',H',hC.db,hC.base,hC.good,by simp [hlen],fun i b v hb hv=>?_,fun b hb=>⟨fun hm=>?_,fun hm=>?_⟩,rfl⟩
 ·by_cases him:i=m
  ·subst him;rw [hss] at hb;cases hb;have hil:=(List.getElem?_eq_some_iff.1 hss).1;rw [List.getElem?_set_self (by omega)] at hv;cases hv;exact hC.row
  ·rw [List.getElem?_set_ne (fun e=>him e.symm)] at hv;have hbs:b∈sb:=List.mem_of_getElem? hb;refine (hrow i b v hb hv).only hO ?_;simp only [List.mem_cons,not_or];refine ⟨fun e=>him ?_,(hap b hbs).1⟩;subst e;have h1:=(List.getElem?_eq_some_iff.1 hb);have h2:=(List.getElem?_eq_some_iff.1 hss);exact (List.getElem_inj hnd).1 (h1.2.trans h2.2.symm)
 ·rcases kF b hm with h|h
  ·exact (hap b hb).1 h
  ·have:=lts b hb;omega
 ·rcases kH b hm with h|h
  ·exact (hap b hb).2 h
  ·have:=lts b hb;omega
theorem dbS_ok(B p:Nat)(sb:List Nat)(m ss:Nat)(hss:sb[m]? = some ss)(hnd:sb.Nodup):(DbS B p sb m).Ok ss where
 only:=by rintro s F w w' G ⟨F1,H1,h1,h2,h3,h4,h5,h6,rfl⟩ k hF;exact ⟨F1,H1,h1.only k fun b hb=>⟨fun hm=>hF b (by simp [hm]) hb,fun hm=>hF b (by simp [hm]) hb⟩,Nat.le_trans h2 k.size,h3,h4,fun i b u hb hu=>(h5 i b u hb hu).only k (hF b (by simp [List.mem_of_getElem? hb])),h6,rfl⟩
 lt:=by
  rintro s F w ⟨F1,H1,h1,h2,h3,h4,h5,h6,rfl⟩ b hb;simp only [List.mem_append] at hb;rcases hb with hb|hb|hb
  ·obtain ⟨i,hi⟩:=List.mem_iff_getElem?.1 hb;have hil:=(List.getElem?_eq_some_iff.1 hi).1;exact (h5 i b s.2.2[i] hi (List.getElem?_eq_getElem (by omega))).lt
  ·exact h1.lt.1 b hb
  ·exact h1.lt.2 b hb
 does:=by
  rintro ⟨t,D,us⟩ F w q ⟨F1,H1,h1,h2,h3,h4,h5,h6,rfl⟩ hq _ hby hqc hcan;have h4':us.length=sb.length:=h4;have hsm:ss∈sb:=List.mem_of_getElem? hss;have hml:m<us.length:=by have:=(List.getElem?_eq_some_iff.1 hss).1;omega
  have hu:=List.getElem?_eq_getElem hml;have C:Cx t B p ss D us[m] F1 H1 w:=⟨h1,h2,h3,by have:t+1<300000:=hcan;omega,h5 m ss _ hss hu,h6 ss hsm⟩;refine (do_on C hq hby hqc hcan).mono ?_;rintro e w' ⟨v,zs,D',u',F',H',rfl,ho,hst,hC,hO,kF,kH,hv⟩;have hI:=dbS_next hss hnd h4 h5 h6 hC hO kF kH m;have lts:∀ b∈sb,b<w.heap.size:=fun b hb=>by obtain ⟨i,hi⟩:=List.mem_iff_getElem?.1 hb;have hil:=(List.getElem?_eq_some_iff.1 hi).1;exact (h5 i b us[i] hi (List.getElem?_eq_getElem (by omega))).lt
  refine ⟨(t+1,D',us.set m u'),_,zs,v,⟨us[m],u',hu,hst,rfl,rfl,step_tells h3 hby hst⟩,rfl,ho,hI,hO.mono (by intro i hi;left;simp at hi ⊢;rcases hi with rfl|hi;exact .inl hsm;exact .inr (.inl hi)),fun b hb=>?_,fun b hb hm=>?_⟩
  ·simp only [List.mem_append] at hb ⊢;rcases hb with hb|hb|hb
   ·exact .inl (.inl hb)
   ·exact (kF b hb).imp (fun h=>.inr (.inl h)) id
   ·exact (kH b hb).imp (fun h=>.inr (.inr h)) id
  ·obtain ⟨g1,g2,g3⟩:=hv b hb;simp only [List.mem_append] at hm;rcases hm with hm|hm|hm
   ·have:=lts b hm;omega
   ·exact g2 hm
   ·exact g3 hm
 tells:=by rintro s q s' zs ⟨u,u',_,_,_,_,hT⟩;exact ⟨hT.by_.1,hT.by_.2,fun w sl hr hc hx=>hT.reads hr hc hx⟩
 drops:=by
  rintro ⟨t,D,us⟩ F w ⟨F1,H1,h1,h2,h3,h4,h5,h6,rfl⟩ hcan;have h4':us.length=sb.length:=h4;have hsm:ss∈sb:=List.mem_of_getElem? hss;have hml:m<us.length:=by have:=(List.getElem?_eq_some_iff.1 hss).1;omega
  have hu:=List.getElem?_eq_getElem hml;have C:Cx t B p ss D us[m] F1 H1 w:=⟨h1,h2,h3,by have:t+1<300000:=hcan;omega,h5 m ss _ hss hu,h6 ss hsm⟩;refine (drop_on C hcan).mono ?_;rintro e w' ⟨D',F',H',rfl,hd,hC,hO,kF,kH⟩;have hI:=dbS_next hss hnd h4 h5 h6 hC hO kF kH m;refine ⟨(t+1,D',us.set m 0),_,0,⟨us[m],hu,hd,rfl,rfl⟩,rfl,by omega,hI,hO.mono (by intro i hi;left;simp at hi ⊢;rcases hi with rfl|hi;exact .inl hsm;exact .inr (.inl hi)),fun b hb=>?_⟩;simp only [List.mem_append] at hb ⊢;rcases hb with hb|hb|hb
  ·exact .inl (.inl hb)
  ·exact (kF b hb).imp (fun h=>.inr (.inl h)) id
  ·exact (kH b hb).imp (fun h=>.inr (.inr h)) id
abbrev ShX:=Nat×PDB×List Int
def SimX(x y:ShX):Prop:=x.1=y.1∧Sim x.2.1 y.2.1∧x.2.2=y.2.2
theorem SimX.refl(x:ShX):SimX x x:=⟨rfl,Sim.refl _,rfl⟩
theorem SimX.symm{x y:ShX}(h:SimX x y):SimX y x:=⟨h.1.symm,h.2.1.symm,h.2.2.symm⟩
def StX(m:Nat)(x:ShX)(q:List Int)(x':ShX)(zs:List Int):Prop:=∃ u u',x.2.2[m]? = some u∧Step x.2.1 u q zs x'.2.1 u'∧x'.1=x.1+1∧x'.2.2=x.2.2.set m u'∧TellB zs
def DrX(m:Nat)(x x':ShX):Prop:=∃ u,x.2.2[m]? = some u∧DropS x.2.1 u x'.2.1∧x'.1=x.1+1∧x'.2.2=x.2.2.set m 0
theorem StX.same{m:Nat}{x y x' y':ShX}{q zs ws:List Int}(h:SimX x y)(h1:StX m x q x' zs)(h2:StX m y q y' ws):zs=ws∧SimX x' y':=by obtain ⟨u,u',a1,a2,a3,a4,_⟩:=h1;obtain ⟨v,v',b1,b2,b3,b4,_⟩:=h2;rw [h.2.2,b1] at a1;cases a1;obtain ⟨r1,r2,r3⟩:=a2.same h.2.1 b2;exact ⟨r1,by rw [a3,b3,h.1],r3,by rw [a4,b4,h.2.2,r2]⟩
theorem DrX.same{m:Nat}{x y x' y':ShX}(h:SimX x y)(h1:DrX m x x')(h2:DrX m y y'):SimX x' y':=by obtain ⟨u,a1,a2,a3,a4⟩:=h1;obtain ⟨v,b1,b2,b3,b4⟩:=h2;rw [h.2.2,b1] at a1;cases a1;exact ⟨by rw [a3,b3,h.1],a2.same h.2.1 b2,by rw [a4,b4,h.2.2]⟩
inductive RunX (m:Nat):ShX→List Int→ShX→List Int→List Int→Int→Prop
 | stop (s xs):sizeF xs=(0,7)→RunX m s xs s xs [] 7
 | long (s xs):sizeF xs=(0,3)→RunX m s xs s [] [] 3
 | step (s xs) (k:Nat) (s' zs s2 ys o d):sizeF xs=((k:Int),0)→StX m s ((xs.drop 4).take k) s' zs→RunX m s' (xs.drop (4+k)) s2 ys o d→RunX m s xs s2 ys (leB (zs.length:Int) 4++zs++o) d
theorem RunX.of{B p m:Nat}{sb:List Nat}{x x':ShX}{xs ys o:List Int}{d:Int}(h:Runs (DbS B p sb m) x xs x' ys o d):RunX m x xs x' ys o d:=by
 induction h with
 | stop s xs h=>exact .stop s xs h
 | long s xs h=>exact .long s xs h
 | step s xs k s' zs s2 ys o d h1 h2 _ ih=>exact .step s xs k s' zs s2 ys o d h1 h2 ih
theorem RunX.same {m : Nat} {x x' y y' : ShX} {xs ys ws o o' : List Int} {d d' : Int} (h1 : RunX m x xs x' ys o d) (h : SimX x y) (h2 : RunX m y xs y' ws o' d') : SimX x' y' ∧ ys = ws ∧ o = o' ∧ d = d' := by
  induction h1 generalizing y o' with
  | stop s xs hz =>
    cases h2 with
    | stop _ _ _ => exact ⟨h, rfl, rfl, rfl⟩
    | long _ _ hz2 => rw [hz] at hz2; cases hz2
    | step _ _ k _ _ _ _ _ _ hz2 => rw [hz] at hz2; cases hz2
  | long s xs hz =>
    cases h2 with
    | stop _ _ hz2 => rw [hz] at hz2; cases hz2
    | long _ _ _ => exact ⟨h, rfl, rfl, rfl⟩
    | step _ _ k _ _ _ _ _ _ hz2 => rw [hz] at hz2; cases hz2
  | step s xs k s' zs s2 ys o d hz hs _ ih =>
    cases h2 with
    | stop _ _ hz2 => rw [hz] at hz2; cases hz2
    | long _ _ hz2 => rw [hz] at hz2; cases hz2
    | step _ _ k2 y1 zs2 _ _ o2 _ hz2 hs2 hr2 =>
      rw [hz] at hz2
      simp only [Prod.mk.injEq, and_true] at hz2
      obtain rfl : k = k2 := by omega
      obtain ⟨rfl, h3⟩ := hs.same h hs2
      obtain ⟨r1, r2, r3, r4⟩ := ih h3 hr2
      exact ⟨r1, r2, by rw [r3], r4⟩
theorem RunX.ends{m:Nat}{x x':ShX}{xs ys o:List Int}{d:Int}(h:RunX m x xs x' ys o d):(d=7∧sizeF ys=(0,7))∨(d=3∧ys=[]):=by
 induction h with
 | stop s xs h=>exact .inl ⟨rfl,h⟩
 | long=>exact .inr ⟨rfl,rfl⟩
 | step _ _ _ _ _ _ _ _ _ _ _ _ ih=>exact ih
theorem RunX.done{m:Nat}{x x':ShX}{xs ys o:List Int}{d:Int}(h:RunX m x xs x' ys o d)(hz:sizeF xs=(0,7)):x'=x∧ys=xs∧o=[]∧d=7:=by
 cases h with
 | stop=>exact ⟨rfl,rfl,rfl,rfl⟩
 | long _ _ h=>rw [hz] at h;cases h
 | step _ _ _ _ _ _ _ _ _ h=>rw [hz] at h;cases h
theorem RunX.count{m:Nat}{x x':ShX}{xs ys o:List Int}{d:Int}(h:RunX m x xs x' ys o d):x'.1+ys.length≤x.1+xs.length∧x'.2.2.length=x.2.2.length:=by
 induction h with
 | stop=>exact ⟨Θ _,rfl⟩
 | long=>exact ⟨by simp,rfl⟩
 | step s xs k s' zs s2 ys o d hz hs _ ih=>
  obtain ⟨u,u',_,_,h3,h4,_⟩:=hs;have hl:=(size_some hz).1;rw [h3,List.length_drop,h4] at ih;refine ⟨by omega,by rw [ih.2];simp⟩
theorem fine_db(B p:Nat)(sb:List Nat)(m:Nat):∀ (n:Nat) (x:ShX) (xs:List Int),x.1+xs.length+1<300000→Fine (DbS B p sb m) n x xs
 | 0,_,_,_=>trivial
 | n+1,x,xs,h=>fun k hk=>by have hl:=(size_some hk).1;refine ⟨show x.1+1<300000 by omega,fun s' zs hs=>fine_db B p sb m n s' _ ?_⟩;obtain ⟨u,u',_,_,h3,_⟩:=hs;rw [h3,List.length_drop];omega
structure SchAt(W:World)(lo B p g l n:Nat)(cs:Array Value)(sb tb:List Nat)(x:ShX)(ys:List (List Int×Int))(F:List Nat)(SF:List (List Nat)):Prop where
 inv:(DbS B p sb 0).I x F W
 strm:∀ (i st:Nat) (q:List Int×Int) (S:List Nat),tb[i]? = some st→ys[i]? = some q→SF[i]? = some S→StrmF W st q.1 q.2 S
 rg:Row W g #[.slice (some ⟨l,0,none⟩) n n,.bool false] tSc
 rl:Row W l cs tLn
 c0:∀ (i ss:Nat),sb[i]? = some ss→cs[i * 3]? = some (.pointer (some ⟨ss,0,none⟩))
 c1:∀ (i st:Nat),tb[i]? = some st→cs[i * 3+1]? = some (.pointer (some ⟨st,0,none⟩))
 c2:∀ (i:Nat) (q:List Int×Int),ys[i]? = some q→cs[i * 3+2]? = some (.bool (decide (q.2≠0)))
 cl:cs.size=n * 3
 ls:sb.length=n∧tb.length=n∧ys.length=n∧SF.length=n
 n8:0<n∧n≤8
 dis:∀ S∈SF,∀ b∈S,b∉F
 dss:∀ (i j:Nat) (S T:List Nat),SF[i]? = some S→SF[j]? = some T→i≠j→∀ b∈S,b∉T
 gl:(g∉F∧l∉F)∧∀ S∈SF,g∉S∧l∉S
 by_:∀ q∈ys,IsBy q.1
 nd:sb.Nodup
 fr:(∀ b∈F,lo≤b)∧(∀ S∈SF,∀ b∈S,lo≤b)∧lo≤l∧lo≤g
theorem SchAt.gnl{W:World}{lo B p g l n:Nat}{cs:Array Value}{sb tb:List Nat}{x:ShX}{ys:List (List Int×Int)}{F:List Nat}{SF:List (List Nat)}(h:SchAt W lo B p g l n cs sb tb x ys F SF):g≠l:=row_apart h.rg h.rl
def SchZ(W:World)(lo B p g n:Nat)(x:ShX)(ys:List (List Int×Int))(Z:List Nat):Prop:=∃ l cs sb tb F SF,SchAt W lo B p g l n cs sb tb x ys F SF∧Z=g :: l :: (F++SF.flatten)
section
variable {W W':World} {lo B p g l n:Nat} {cs:Array Value} {sb tb:List Nat} {x:ShX} {ys:List (List Int×Int)} {F Z:List Nat} {SF:List (List Nat)}
theorem SchAt.only{G:List Nat}(h:SchAt W lo B p g l n cs sb tb x ys F SF)(k:Only G W W')(hG:∀ b∈g :: l :: (F++SF.flatten),b∉G):SchAt W' lo B p g l n cs sb tb x ys F SF:=by have hS:∀ S∈SF,∀ b∈S,b∉G:=fun S hS b hb=>hG b (by simp;exact .inr (.inr (.inr ⟨S,hS,hb⟩)));obtain ⟨F1,H1,h1,h2,h3,h4,h5,h6,h7⟩:=h.inv;have hF:∀ b∈F,b∉G:=fun b hb=>hG b (by simp [hb]);refine ⟨⟨F1,H1,h1.only k fun b hb=>⟨fun hm=>hF b (by rw [h7];simp [hm]) hb,fun hm=>hF b (by rw [h7];simp [hm]) hb⟩,Nat.le_trans h2 k.size,h3,h4,fun i b u hb hu=>(h5 i b u hb hu).only k (hF b (by rw [h7];simp [List.mem_of_getElem? hb])),h6,h7⟩,fun i st q S h1 h2 h3=>(h.strm i st q S h1 h2 h3).only k (hS S (List.mem_of_getElem? h3)),h.rg.only k (hG g (by simp)),h.rl.only k (hG l (by simp)),h.c0,h.c1,h.c2,h.cl,h.ls,h.n8,h.dis,h.dss,h.gl,h.by_,h.nd,h.fr⟩
theorem SchZ.only{G:List Nat}(h:SchZ W lo B p g n x ys Z)(k:Only G W W')(hG:∀ b∈Z,b∉G):SchZ W' lo B p g n x ys Z:=by obtain ⟨l,cs,sb,tb,F,SF,h,rfl⟩:=h;exact ⟨l,cs,sb,tb,F,SF,h.only k hG,rfl⟩
theorem SchAt.ltF(h:SchAt W lo B p g l n cs sb tb x ys F SF):(∀ b∈F,b<W.heap.size)∧∀ S∈SF,∀ b∈S,b<W.heap.size:=by
 obtain ⟨F1,H1,h1,h2,h3,h4,h5,h6,h7⟩:=h.inv;refine ⟨fun b hb=>?_,fun S hS b hb=>?_⟩
 ·rw [h7] at hb;simp only [List.mem_append] at hb;rcases hb with hb|hb|hb
  ·obtain ⟨i,hi⟩:=List.mem_iff_getElem?.1 hb;have hil:=(List.getElem?_eq_some_iff.1 hi).1;exact (h5 i b x.2.2[i] hi (List.getElem?_eq_getElem (by omega))).lt
  ·exact h1.lt.1 b hb
  ·exact h1.lt.2 b hb
 ·obtain ⟨i,hi⟩:=List.mem_iff_getElem?.1 hS;have hil:=(List.getElem?_eq_some_iff.1 hi).1;have l:=h.ls;exact (h.strm i tb[i] ys[i] S (List.getElem?_eq_getElem (by omega)) (List.getElem?_eq_getElem (by omega)) hi).lt b hb
theorem SchZ.lt(h:SchZ W lo B p g n x ys Z):∀ b∈Z,b<W.heap.size:=by
 obtain ⟨l,cs,sb,tb,F,SF,h,rfl⟩:=h;intro b hb;simp at hb;rcases hb with rfl|rfl|hb|⟨S,hS,hb⟩
 ·exact h.rg.lt
 ·exact h.rl.lt
 ·exact h.ltF.1 b hb
 ·exact h.ltF.2 S hS b hb
theorem SchZ.ge(h:SchZ W lo B p g n x ys Z):∀ b∈Z,lo≤b:=by
 obtain ⟨l,cs,sb,tb,F,SF,h,rfl⟩:=h;intro b hb;simp at hb;rcases hb with rfl|rfl|hb|⟨S,hS,hb⟩
 ·exact h.fr.2.2.2
 ·exact h.fr.2.2.1
 ·exact h.fr.1 b hb
 ·exact h.fr.2.1 S hS b hb
theorem SchZ.good(h:SchZ W lo B p g n x ys Z):Good x.1 x.2.1∧x.2.2.length=n∧ys.length=n∧n≤8∧0<n:=by obtain ⟨l,cs,sb,tb,F,SF,h,rfl⟩:=h;obtain ⟨F1,H1,h1,h2,h3,h4,h5,h6,h7⟩:=h.inv;exact ⟨h3,by rw [h4];exact h.ls.1,h.ls.2.2.1,h.n8.2,h.n8.1⟩
end
def FedX(m:Nat)(x:ShX)(q u:List Int)(x':ShX)(q':List Int×Int)(o:List Int)(er:Int):Prop:=
 (RunX m x (q++u) x' q'.1 o 7∧q'.2=0∧er=0)∨∃ x1 o1,RunX m x (q++u) x1 [] o1 3∧DrX m x1 x'∧q'=([],3)∧o=o1++longB∧er=3
def FedZ(lo B p g n m:Nat)(x:ShX)(ys:List (List Int×Int))(q u:List Int)(Z:List Nat)(W:World)(e:Ending)(W':World):Prop:=
 ∃ v x' q' o er Z',FedX m x q u x' q' o er∧e=.returned (.tuple #[v,.int .i64 er])∧W'.ownsRow W.heap.size 5 1 v o.length (o.map (Value.int .u8))∧SchZ W' lo B p g n x' (ys.set m q') Z'∧Only Z W W'∧Kp Z Z' W.heap.size∧IsBy o∧∀ b,v.ownBlock=some b→b∉Z'
theorem flat_set{α:Type}{SF:List (List α)}{m:Nat}{T:List α}{b:α}(h:b∈(SF.set m T).flatten):b∈SF.flatten∨b∈T:=by
 obtain ⟨S,hS,hb⟩:=List.mem_flatten.1 h;rcases List.mem_or_eq_of_mem_set hS with h1|h1
 ·exact .inl (List.mem_flatten.2 ⟨S,h1,hb⟩)
 ·exact .inr (by rw [←h1];exact hb)
theorem feed_z{W:World}{lo B p g n m:Nat}{x:ShX}{ys:List (List Int×Int)}{Z:List Nat}(h:SchZ W lo B p g n x ys Z)(hlo:lo≤W.heap.size){q:List Int}(hq:ys[m]? = some (q,0)){u:Sl}(hu:SlRd .u8 W u)(hub:IsBy u.xs)(hlen:q.length+u.xs.length≤1000000)(hc:x.1+(q++u.xs).length+1<300000) :
  Calls prog 29 #[.pointer (some ⟨g,0,none⟩),.int .i64 (m:Int),u.v] W (FedZ lo B p g n m x ys q u.xs Z W):=by
 obtain ⟨l,cs,sb,tb,F,SF,h,rfl⟩:=h;have hl:=h.ls;have hm:m<n:=by have:=(List.getElem?_eq_some_iff.1 hq).1;omega
 obtain ⟨ss,hss⟩:∃ ss,sb[m]? = some ss:=⟨_,List.getElem?_eq_getElem (by omega)⟩;obtain ⟨st,hst⟩:∃ st,tb[m]? = some st:=⟨_,List.getElem?_eq_getElem (by omega)⟩;obtain ⟨S0,hS0⟩:∃ S0,SF[m]? = some S0:=⟨_,List.getElem?_eq_getElem (by omega)⟩;have hS0m:S0∈SF:=List.mem_of_getElem? hS0;have hqb:=h.by_ (q,0) (List.mem_of_getElem? hq);have lt:=h.ltF;have lg:=h.rg.lt;have ll:=h.rl.lt;have hgl:=h.gnl;refine (feed_on (dbS_ok B p sb m ss hss h.nd) (m:=m) (n:=n) (l:=l) (g:=g) (st:=st) (cs:=cs) (s0:=x) (F0:=F) (S0:=S0) (xs0:=q) (u:=u) h.inv (h.strm m st (q,0) S0 hst hq hS0) h.rg h.rl hm h.n8.2 (h.c0 m ss hss) (h.c1 m st hst) (fun b hb hs=>h.dis S0 hS0m b hs hb) ⟨⟨h.gl.1.1,(h.gl.2 S0 hS0m).1⟩,h.gl.1.2,(h.gl.2 S0 hS0m).2⟩ hu hub hqb hlen (fine_db B p sb m _ x _ hc) (h.c2 m (q,0) hq) (fun s' ys o hr=>?_)).mono ?_
 ·have:=(RunX.of hr).count;show s'.1+1<300000;omega
 rintro e w' ⟨s',ys',o,v,F',S',d,hr,hO,hF,hS,hd,hyb,⟨hob,hof⟩,hcase⟩;have hrx:=RunX.of hr;have kz:Only (g :: l :: (F++SF.flatten)) W w':=hO.mono (by
  intro i hi;left;simp at hi ⊢;rcases hi with rfl|hi|hi
  ·simp
  ·simp [hi]
  ·exact .inr (.inr (.inr ⟨S0,hS0m,hi⟩)))
 have build:∀ (x':ShX) (q':List Int×Int) (cs':Array Value),(DbS B p sb 0).I x' F' w'→StrmF w' st q'.1 q'.2 S'→Row w' l cs' tLn→cs'.size=n * 3→IsBy q'.1 →
   (∀ (i:Nat) (v:Value),(i≠m * 3+2)→cs[i]? = some v→cs'[i]? = some v)→cs'[m * 3+2]? = some (.bool (decide (q'.2≠0))) →
   SchZ w' lo B p g n x' (ys.set m q') (g :: l :: (F'++(SF.set m S').flatten))∧Kp (g :: l :: (F++SF.flatten)) (g :: l :: (F'++(SF.set m S').flatten)) W.heap.size:=fun x' q' cs' hI hs hl' hcl hqb' hcs hc2=>by
  have other:∀ (i:Nat) (S:List Nat),(SF.set m S')[i]? = some S→(i=m∧S=S')∨(i≠m∧SF[i]? = some S):=fun i S hi=>by
   by_cases him:i=m
   ·subst him;rw [List.getElem?_set_self (by omega)] at hi;exact .inl ⟨rfl,(Option.some.inj hi).symm⟩
   ·rw [List.getElem?_set_ne (fun e=>him e.symm)] at hi;exact .inr ⟨him,hi⟩
  have memo:∀ S∈SF.set m S',S=S'∨∃ i,i≠m∧SF[i]? = some S:=fun S hS=>by
   obtain ⟨i,hi⟩:=List.mem_iff_getElem?.1 hS;rcases other i S hi with ⟨_,h1⟩|⟨h1,h2⟩
   ·exact .inl h1
   ·exact .inr ⟨i,h1,h2⟩
  have nO:∀ i,i≠m→∀ S,SF[i]? = some S→∀ b∈S,b∉l :: F++S0:=fun i him S hi b hb hm=>by
   have hSm:=List.mem_of_getElem? hi;simp at hm;rcases hm with rfl|hm|hm
   ·exact (h.gl.2 S hSm).2 hb
   ·exact h.dis S hSm b hb hm
   ·exact h.dss i m S S0 hi hS0 him b hb hm
  refine ⟨⟨l,cs',sb,tb,F',SF.set m S',⟨hI,fun i st2 q2 S h1 h2 h3=>?_,h.rg.only hO (by simp;exact ⟨hgl,h.gl.1.1,(h.gl.2 S0 hS0m).1⟩),hl',fun i ss2 h1=>hcs _ _ (by omega) (h.c0 i ss2 h1),fun i st2 h1=>hcs _ _ (by omega) (h.c1 i st2 h1),fun i q2 h1=>?_,hcl,⟨hl.1,hl.2.1,by simp [hl.2.2.1],by simp [hl.2.2.2]⟩,h.n8,fun S hSm b hb hbF=>?_,fun i j S T hi hj hij b hb hbT=>?_,⟨⟨fun hm=>?_,fun hm=>?_⟩,fun S hSm=>?_⟩,fun q2 hq2=>?_,h.nd,⟨fun b hb=>?_,fun S hSm b hb=>?_,h.fr.2.2.1,h.fr.2.2.2⟩⟩,rfl⟩,fun b hb=>?_⟩
  ·by_cases him:i=m
   ·subst him;rw [hst] at h1;cases h1;rw [List.getElem?_set_self (by omega)] at h2 h3;cases h2;cases h3;exact hs
   ·rw [List.getElem?_set_ne (fun e=>him e.symm)] at h2 h3;exact (h.strm i st2 q2 S h1 h2 h3).only hO (nO i him S h3)
  ·by_cases him:i=m
   ·subst him;rw [List.getElem?_set_self (by omega)] at h1;cases h1;exact hc2
   ·rw [List.getElem?_set_ne (fun e=>him e.symm)] at h1;exact hcs _ _ (by omega) (h.c2 i q2 h1)
  ·rcases memo S hSm with rfl|⟨i,him,hi⟩
   ·exact hd b hbF hb
   ·rcases hF b hbF with h9|h9
    ·exact h.dis S (List.mem_of_getElem? hi) b hb h9
    ·have:=lt.2 S (List.mem_of_getElem? hi) b hb;omega
  ·rcases other i S hi with ⟨rfl,rfl⟩|⟨him,hi'⟩
   ·rcases other j T hj with ⟨rfl,rfl⟩|⟨hjm,hj'⟩
    ·exact hij rfl
    ·rcases hS b hb with h9|h9
     ·exact h.dss _ j S0 T hS0 hj' (fun e=>hjm e.symm) b h9 hbT
     ·have:=lt.2 T (List.mem_of_getElem? hj') b hbT;omega
   ·rcases other j T hj with ⟨rfl,rfl⟩|⟨hjm,hj'⟩
    ·rcases hS b hbT with h9|h9
     ·exact h.dss i _ S S0 hi' hS0 him b hb h9
     ·have:=lt.2 S (List.mem_of_getElem? hi') b hb;omega
    ·exact h.dss i j S T hi' hj' hij b hb hbT
  ·rcases hF _ hm with h9|h9
   ·exact h.gl.1.1 h9
   ·omega
  ·rcases hF _ hm with h9|h9
   ·exact h.gl.1.2 h9
   ·omega
  ·rcases memo S hSm with rfl|⟨i,him,hi⟩
   ·refine ⟨fun hm=>?_,fun hm=>?_⟩
    ·rcases hS _ hm with h9|h9
     ·exact (h.gl.2 S0 hS0m).1 h9
     ·omega
    ·rcases hS _ hm with h9|h9
     ·exact (h.gl.2 S0 hS0m).2 h9
     ·omega
   ·exact h.gl.2 S (List.mem_of_getElem? hi)
  ·rcases List.mem_or_eq_of_mem_set hq2 with h9|h9
   ·exact h.by_ q2 h9
   ·rw [h9];exact hqb'
  ·rcases hF b hb with h9|h9
   ·exact h.fr.1 b h9
   ·omega
  ·rcases memo S hSm with rfl|⟨i,him,hi⟩
   ·rcases hS b hb with h9|h9
    ·exact h.fr.2.1 S0 hS0m b h9
    ·omega
   ·exact h.fr.2.1 S (List.mem_of_getElem? hi) b hb
  ·simp only [List.mem_cons,List.mem_append] at hb;rcases hb with rfl|rfl|hb|hb
   ·exact .inl (by simp)
   ·exact .inl (by simp)
   ·exact (hF b hb).imp (fun h=>by simp [h]) id
   ·rcases flat_set hb with h9|h9
    ·exact .inl (by simp only [List.mem_cons,List.mem_append];exact .inr (.inr (.inr h9)))
    ·refine (hS b h9).imp (fun h=>?_) id;simp only [List.mem_cons,List.mem_append];exact .inr (.inr (.inr (List.mem_flatten.2 ⟨S0,hS0m,h⟩)))
 have offz:∀ b,W.heap.size≤b→(b∉F'∧b∉S')→b∉g :: l :: (F'++(SF.set m S').flatten):=fun b h1 h2 hm=>by
  simp only [List.mem_cons,List.mem_append] at hm;rcases hm with rfl|rfl|hm|hm
  ·omega
  ·omega
  ·exact h2.1 hm
  ·rcases flat_set hm with h9|h9
   ·obtain ⟨S,hS1,hb1⟩:=List.mem_flatten.1 h9;have:=lt.2 S hS1 b hb1;omega
   ·exact h2.2 h9
 rcases hcase with ⟨rfl,rfl,ho,hI,hs,hrl⟩|⟨rfl,s2,hdr,rfl,ho,hI,hs,hrl⟩
 ·obtain ⟨b1,b2⟩:=build s' (ys',0) cs hI hs hrl h.cl hyb (fun i v _ hv=>hv) (h.c2 m (q,0) hq);exact ⟨v,s',(ys',0),o,0,_,.inl ⟨hrx,rfl,rfl⟩,rfl,ho,b1,kz,b2,hob,fun b hb=>offz b (ho.lt b hb).1 (hof b hb)⟩
 ·have hy:ys'=[]:=by
   rcases hrx.ends with ⟨h9,_⟩|⟨_,h9⟩
   ·omega
   ·exact h9
  subst hy;obtain ⟨b1,b2⟩:=build s2 ([],3) (cs.setIfInBounds (m * 3+2) (.bool true)) hI hs hrl (by simp [h.cl]) IsBy.nil (fun i v hi hv=>by rw [Array.getElem?_setIfInBounds_ne (fun e=>hi e.symm)];exact hv) (by rw [Array.getElem?_setIfInBounds_self_of_lt (by rw [h.cl];omega)];rfl);exact ⟨v,s2,([],3),o++longB,3,_,.inr ⟨s',o,hrx,hdr,rfl,rfl,rfl⟩,rfl,ho,b1,kz,b2,hob.append (by unfold longB;exact (leB_by _ _).append (((IsBy.one (by omega) (by omega)).append (IsBy.one (by omega) (by omega))).append (leB_by _ _))),fun b hb=>offz b (ho.lt b hb).1 (hof b hb)⟩
theorem txn_z{W:World}{lo B p g n m:Nat}{x:ShX}{ys:List (List Int×Int)}{Z:List Nat}(h:SchZ W lo B p g n x ys Z){u:Int}(hu:x.2.2[m]? = some u) :
  Calls prog 31 #[.pointer (some ⟨g,0,none⟩),.int .i64 (m:Int)] W fun e w'=>e=.returned (.int .u64 u)∧w'=W:=by
 obtain ⟨l,cs,sb,tb,F,SF,h,rfl⟩:=h;have hl:=h.ls;obtain ⟨F1,H1,h1,h2,h3,h4,h5,h6,h7⟩:=h.inv;have hm:m<n:=by have:=(List.getElem?_eq_some_iff.1 hu).1;omega
 obtain ⟨ss,hss⟩:∃ ss,sb[m]? = some ss:=⟨_,List.getElem?_eq_getElem (by omega)⟩;exact sctxn_on h.rg h.rl hm (h.c0 m ss hss) (h5 m ss u hss hu)
theorem scclosed_on{w:World}{g l n m:Nat}{cs:Array Value}{d:Value}{b:Bool}(hg:Row w g #[.slice (some ⟨l,0,none⟩) n n,d] tSc)(hl:Row w l cs tLn)(hm:m<n)(hc:cs[m * 3+2]? = some (.bool b)) :
  Calls prog 30 #[.pointer (some ⟨g,0,none⟩),.int .i64 (m:Int)] w fun e w'=>e=.returned (.bool b)∧w'=w:=by
 have SN:=Ξ (sessions_on hg);have c0:=hg.c 0 (.slice (some ⟨l,0,none⟩) n n);have c1:w.cell? ⟨l,m * 3+2,none⟩=some (.bool b):=(hl.cell _).trans hc;have d1:decide ((0:Int)≤(m:Int))=true:=Γ (by omega);have d2:decide ((m:Int)<(n:Int))=true:=Γ (by omega);have d2':decide (m<n)=true:=Γ hm;have d3:(m:Int)<(n:Int):=by omega
 clear hg hl hc;go_enter func30,ntmps30;go_wp2_with fail;refine SN.out.mono ?_;rintro _ w2 ⟨rfl,hw⟩;subst w2;go_wp2_with fail;go_ret;exact ⟨rfl,rfl⟩
theorem closed_z{W:World}{lo B p g n m:Nat}{x:ShX}{ys:List (List Int×Int)}{Z:List Nat}(h:SchZ W lo B p g n x ys Z){q:List Int×Int}(hq:ys[m]? = some q) :
  Calls prog 30 #[.pointer (some ⟨g,0,none⟩),.int .i64 (m:Int)] W fun e w'=>e=.returned (.bool (decide (q.2≠0)))∧w'=W:=by
 obtain ⟨l,cs,sb,tb,F,SF,h,rfl⟩:=h;have hl:=h.ls;have hm:m<n:=by have:=(List.getElem?_eq_some_iff.1 hq).1;omega
 exact scclosed_on h.rg h.rl hm (h.c2 m q hq)
theorem lnL_get:∀ (ls:List (Nat×Nat×Bool)) (i:Nat) (x:Nat×Nat×Bool),ls[i]? = some x→(lnL ls)[i * 3]? = some (.pointer (some ⟨x.1,0,none⟩))∧(lnL ls)[i * 3+1]? = some (.pointer (some ⟨x.2.1,0,none⟩))∧(lnL ls)[i * 3+2]? = some (.bool x.2.2)
 | [],i,x,h=>by simp at h
 | y :: ls,0,x,h=>by simp only [List.getElem?_cons_zero,Option.some.injEq] at h;subst h;simp [lnL]
 | y :: ls,i+1,x,h=>by
  have ih:=lnL_get ls i x (by simpa using h);have e:lnL (y :: ls)=[.pointer (some ⟨y.1,0,none⟩),.pointer (some ⟨y.2.1,0,none⟩),.bool y.2.2]++lnL ls:=rfl;rw [e];refine ⟨?_,?_,?_⟩
  ·rw [show (i+1) * 3=3+i * 3 by omega,List.getElem?_append_right (by simp)];simp only [List.length_cons,List.length_nil];rw [show 3+i * 3-(0+1+1+1)=i * 3 by omega];exact ih.1
  ·rw [show (i+1) * 3+1=3+(i * 3+1) by omega,List.getElem?_append_right (by simp)];simp only [List.length_cons,List.length_nil];rw [show 3+(i * 3+1)-(0+1+1+1)=i * 3+1 by omega];exact ih.2.1
  ·rw [show (i+1) * 3+2=3+(i * 3+2) by omega,List.getElem?_append_right (by simp)];simp only [List.length_cons,List.length_nil];rw [show 3+(i * 3+2)-(0+1+1+1)=i * 3+2 by omega];exact ih.2.2
theorem nd_parts:∀ (ls:List (Nat×Nat×Bool)),(ls.flatMap fun x=>[x.1,x.2.1]).Nodup→(ls.map (·.1)).Nodup∧(ls.map (·.2.1)).Nodup∧∀ x∈ls,∀ y∈ls,x.2.1≠y.1
 | [],_=>by simp
 | z :: ls,h=>by
  simp only [List.flatMap_cons,List.cons_append,List.nil_append,List.nodup_cons,List.mem_cons,not_or] at h;obtain ⟨⟨h1,h2⟩,h3,h4⟩:=h;obtain ⟨a,b,c⟩:=nd_parts ls h4;have m1:∀ x∈ls,x.1∈ls.flatMap fun x=>[x.1,x.2.1]:=fun x hx=>List.mem_flatMap.2 ⟨x,hx,by simp⟩;have m2:∀ x∈ls,x.2.1∈ls.flatMap fun x=>[x.1,x.2.1]:=fun x hx=>List.mem_flatMap.2 ⟨x,hx,by simp⟩;refine ⟨?_,?_,?_⟩
  ·simp only [List.map_cons,List.nodup_cons];refine ⟨fun hm=>?_,a⟩;obtain ⟨y,hy,e⟩:=List.mem_map.1 hm;exact h2 (by rw [←e];exact m1 y hy)
  ·simp only [List.map_cons,List.nodup_cons];refine ⟨fun hm=>?_,b⟩;obtain ⟨y,hy,e⟩:=List.mem_map.1 hm;exact h3 (by rw [←e];exact m2 y hy)
  ·intro x hx y hy e;rcases List.mem_cons.1 hx with e1|hx'<;>rcases List.mem_cons.1 hy with e2|hy'
   ·rw [e1,e2] at e;exact h1 e.symm
   ·rw [e1] at e;exact h3 (by rw [e];exact m1 y hy')
   ·rw [e2] at e;exact h2 (by rw [←e];exact m2 x hx')
   ·exact c x hx' y hy' e
def NewZ(lo p n:Nat)(dim:Int)(F H:List Nat)(w:World)(e:Ending)(w':World):Prop:=∃ g Z,e=.returned (.tuple #[.pointer (some ⟨g,0,none⟩),.int .i64 0])∧SchZ w' lo lo p g n (0,newP dim,List.replicate n 0) (List.replicate n ([],0)) Z∧Only [] w w'∧∀ b∈Z,b∈F∨b∈H∨w.heap.size≤b
theorem sch_ofD {w0 w1 : World} {lo B p g l n t : Nat} {D : PDB} {F H : List Nat} {ls : List (Nat × Nat × Bool)} {cs : Array Value} (hd : DbF w0 B p D F H) (hlo : lo ≤ B) (hB : B ≤ w0.heap.size) (good : Good t D) (hn : 0 < n) (hn8 : n ≤ 8) (hI : ResI g l n (baseV p) w0 n w1 ls cs) (hnot : ∀ b, b ∈ F ∨ b ∈ H → b ≠ g ∧ b ≠ l) (hg : lo ≤ g ∧ g < w0.heap.size) (hl : lo ≤ l ∧ l < w0.heap.size) :
    SchZ w1 lo B p g n (t, D, List.replicate n 0) (List.replicate n ([], 0)) (g :: l :: ((ls.map (·.1) ++ (F ++ H)) ++ (ls.map fun x => [x.2.1]).flatten)) := by
  have k1 := hI.only
  have hlt := hd.lt
  have hge := hd.ge
  obtain ⟨nd1, nd2, nd3⟩ := nd_parts ls hI.nd
  have fr1 : ∀ x ∈ ls, w0.heap.size ≤ x.1 := fun x hx => hI.fresh _ (List.mem_flatMap.2 ⟨x, hx, by simp⟩)
  have fr2 : ∀ x ∈ ls, w0.heap.size ≤ x.2.1 := fun x hx => hI.fresh _ (List.mem_flatMap.2 ⟨x, hx, by simp⟩)
  have hcs : cs.toList = lnL ls := by
    rw [← hI.take, List.take_of_length_le (by simp [hI.size])]
  have cell : ∀ j v, (lnL ls)[j]? = some v → cs[j]? = some v := fun j v h => by rw [← Array.getElem?_toList, hcs]; exact h
  have smem : ∀ b ∈ ls.map (·.1), w0.heap.size ≤ b := fun b hb => by obtain ⟨x, hx, rfl⟩ := List.mem_map.1 hb; exact fr1 x hx
  have tmem : ∀ S ∈ ls.map (fun x => [x.2.1]), ∀ b ∈ S, w0.heap.size ≤ b := fun S hS b hb => by
    obtain ⟨y, hy, rfl⟩ := List.mem_map.1 hS
    simp at hb
    subst hb
    exact fr2 y hy
  have dm : ∀ b, b ∈ F ∨ b ∈ H → b < w0.heap.size ∧ lo ≤ b := fun b hb => by
    rcases hb with hb | hb
    · have := hlt.1 b hb; have := hge.1 b hb; omega
    · have := hlt.2 b hb; have := hge.2 b hb; omega
  refine ⟨l, cs, ls.map (·.1), ls.map (·.2.1), ls.map (·.1) ++ (F ++ H), ls.map fun x => [x.2.1], ⟨⟨F, H, hd.only k1 fun b hb => ⟨fun hm => ?_, fun hm => ?_⟩, Nat.le_trans hB k1.size, good, by simp [hI.len], fun i b u hb hu => ?_, fun b hb => ⟨fun hm => ?_, fun hm => ?_⟩, rfl⟩, fun i st q S e1 e2 e3 => ?_, hI.rg, hI.rl, fun i ss e1 => ?_, fun i st e1 => ?_, fun i q e1 => ?_, hI.size, ⟨by simp [hI.len], by simp [hI.len], by simp, by simp [hI.len]⟩, ⟨hn, hn8⟩, fun S hS b hb hm => ?_, fun i j S T e1 e2 hij b hb hbT => ?_, ⟨⟨fun hm => ?_, fun hm => ?_⟩, fun S hS => ⟨fun hm => ?_, fun hm => ?_⟩⟩, fun q hq => ?_, nd1, ⟨fun b hb => ?_, fun S hS b hb => ?_, hl.1, hg.1⟩⟩, rfl⟩
  · have := hnot b (.inl hm); simp at hb; omega
  · have := hnot b (.inr hm); simp at hb; omega
  · rw [List.getElem?_map, Option.map_eq_some_iff] at hb
    obtain ⟨y, hy, rfl⟩ := hb
    have := List.eq_of_mem_replicate (List.mem_of_getElem? hu)
    subst this
    exact (hI.each y (List.mem_of_getElem? hy)).1
  · have := smem b hb; have := dm b (.inl hm); omega
  · have := smem b hb; have := dm b (.inr hm); omega
  · rw [List.getElem?_map, Option.map_eq_some_iff] at e1 e3
    obtain ⟨y, hy, rfl⟩ := e1
    obtain ⟨y2, hy2, rfl⟩ := e3
    rw [hy] at hy2
    cases hy2
    have := List.eq_of_mem_replicate (List.mem_of_getElem? e2)
    subst this
    exact (hI.each y (List.mem_of_getElem? hy)).2.1
  · rw [List.getElem?_map, Option.map_eq_some_iff] at e1
    obtain ⟨y, hy, rfl⟩ := e1
    exact cell _ _ (lnL_get ls i y hy).1
  · rw [List.getElem?_map, Option.map_eq_some_iff] at e1
    obtain ⟨y, hy, rfl⟩ := e1
    exact cell _ _ (lnL_get ls i y hy).2.1
  · have hi := (List.getElem?_eq_some_iff.1 e1).1
    have := List.eq_of_mem_replicate (List.mem_of_getElem? e1)
    subst this
    simp at hi
    have hy := List.getElem?_eq_getElem (l := ls) (i := i) (by rw [hI.len]; exact hi)
    rw [cell _ _ (lnL_get ls i _ hy).2.2, (hI.each _ (List.mem_of_getElem? hy)).2.2]
    rfl
  · have h1 := tmem S hS b hb
    obtain ⟨y, hy, rfl⟩ := List.mem_map.1 hS
    simp at hb
    subst hb
    simp only [List.mem_append] at hm
    rcases hm with hm | hm
    · obtain ⟨z, hz2, e⟩ := List.mem_map.1 hm
      exact nd3 y hy z hz2 e.symm
    · have := dm _ hm; omega
  · rw [List.getElem?_map, Option.map_eq_some_iff] at e1 e2
    obtain ⟨y, hy, rfl⟩ := e1
    obtain ⟨z, hz2, rfl⟩ := e2
    simp at hb hbT
    have a1 : (ls.map (·.2.1))[i]? = some y.2.1 := by rw [List.getElem?_map, hy]; rfl
    have a2 : (ls.map (·.2.1))[j]? = some z.2.1 := by rw [List.getElem?_map, hz2]; rfl
    have b1 := List.getElem?_eq_some_iff.1 a1
    have b2 := List.getElem?_eq_some_iff.1 a2
    exact hij ((List.getElem_inj nd2).1 (b1.2.trans ((hb.symm.trans hbT).trans b2.2.symm)))
  · simp only [List.mem_append] at hm
    rcases hm with hm | hm
    · have := smem _ hm; omega
    · exact (hnot _ hm).1 rfl
  · simp only [List.mem_append] at hm
    rcases hm with hm | hm
    · have := smem _ hm; omega
    · exact (hnot _ hm).2 rfl
  · have := tmem S hS _ hm; omega
  · have := tmem S hS _ hm; omega
  · have := List.eq_of_mem_replicate hq
    subst this
    exact IsBy.nil
  · simp only [List.mem_append] at hb
    rcases hb with hb | hb
    · have := smem _ hb; omega
    · exact (dm b hb).2
  · have := tmem S hS b hb; omega
theorem good_new{dim:Int}(h1:1≤dim)(h2:dim≤4096):Good 0 (newP dim):=⟨⟨h1,h2⟩,by simp [newP,vsOf,Vs.no],by simp [newP],by simp [newP],⟨[],by simp,by simp [newP],by simp [newP]⟩,by simp [newP,vsOf,Vs.no],by simp [newP],by simp [newP],by simp [newP]⟩
theorem new_z{w:World}{lo p n:Nat}{dim:Int}{F H:List Nat}(hd:DbF w lo p (newP dim) F H)(hlo:lo≤w.heap.size)(h1:1≤dim)(h2:dim≤4096)(hn:0<n)(hn8:n≤8) :
  Calls prog 26 #[baseV p,.int .i64 (n:Int)] w (NewZ lo p n dim F H w):=by
 refine (new_on_ (w:=w) (n:=n) (tb:=24) (pb:=.pointer (some ⟨p,0,none⟩)) hn hn8).mono ?_;rintro e w1 ⟨w0,g,l,ls,cs,rfl,hI,hO,hg,hl,hgl,g0,l0⟩;have hl9:=hd.lt;have b:Only [] w w1:=hO.trans hI.only (by intro i hi;right;simp at hi;omega);have a:=sch_ofD (hd.only hO (by simp)) (Θ lo) (Nat.le_trans hlo hO.size) (good_new h1 h2) hn hn8 hI (fun b hb=>by have:b<w.heap.size:=hb.elim (hl9.1 b) (hl9.2 b);omega) ⟨by omega,g0⟩ ⟨by omega,l0⟩;refine ⟨g,_,rfl,a,b,fun c hc=>?_⟩;have hz:=hO.size;simp only [List.mem_cons,List.mem_append] at hc;rcases hc with rfl|rfl|(hc|hc|hc)|hc
 ·exact .inr (.inr hg)
 ·exact .inr (.inr hl)
 ·obtain ⟨x,hx,rfl⟩:=List.mem_map.1 hc;have:=hI.fresh x.1 (List.mem_flatMap.2 ⟨x,hx,by simp⟩);exact .inr (.inr (by omega))
 ·exact .inl hc
 ·exact .inr (.inl hc)
 ·obtain ⟨S,hS,hb⟩:=List.mem_flatten.1 hc;obtain ⟨x,hx,rfl⟩:=List.mem_map.1 hS;simp at hb;have:=hI.fresh x.2.1 (List.mem_flatMap.2 ⟨x,hx,by simp⟩);exact .inr (.inr (by omega))
theorem own_down{w:World}{B B' n:Nat}{v:Value}{xs:List Value}{e:TypeId}(h:w.ownsRow B e 1 v n xs)(hb:B'≤B):w.ownsRow B' e 1 v n xs:=
 ⟨h.1,h.2.imp id fun ⟨g,cap,cur,h1,h2,h3⟩=>⟨g,cap,cur,h1,Nat.le_trans hb h2,h3⟩⟩
theorem row_rd{W:World}{a:Option Addr}{n c:Nat}{z:List Int}(h:IsRow .u8 W a n c z)(hn:n≤1000000):SlRd .u8 W ⟨a,c,z.take n⟩∧IsBy (z.take n)∧(z.take n).length=n∧(z.take n).length≤c∧(z.take n≠[]→∀ b∈(Sl.mk a c (z.take n)).bs,b<W.heap.size):=by
 have hl:=h.length;have hi:=h.ints;have hw:=h.wf;have hlt:z.take n≠[]→∀ b∈(Sl.mk a c (z.take n)).bs,b<W.heap.size:=fun hne b hb=>by
  rcases h with ⟨rfl,rfl,rfl,rfl⟩|⟨x,rfl,h1,_,h2,hc,_⟩
  ·simp at hne
  ·simp [Sl.bs] at hb;subst hb;have h0:0<z.length:=by
    cases z with
    | nil=>simp at hne
    | cons=>simp
   have h7:=World.block_lt_of_cell? W _ (hc 0 h0);have e7:(x.add 0).block=x.block:=by unfold Addr.add;split<;>rfl
   rw [e7] at h7;exact h7
 refine ⟨⟨by unfold Sl.v;simp only [hl];exact hi,hlt,fun ha=>?_,by show (z.take n).length≤1000000;omega⟩,fun x hx=>?_,hl,?_,hlt⟩
 ·rcases h with ⟨rfl,rfl,rfl,rfl⟩|⟨x,rfl,_⟩
  ·exact ⟨rfl,rfl⟩
  ·simp at ha
 ·have:=hw x hx;simp [Lit.wf] at this;have e1:IntKind.u8.min=0:=rfl;have e2:IntKind.u8.max=255:=rfl;omega
 ·rw [hl];rcases h with ⟨rfl,rfl,rfl,rfl⟩|⟨x,rfl,h1,_⟩
  ·exact Θ _
  ·exact h1
theorem ask_begin:∃ c,askQ [1]=some c∧c.kind=1:=⟨_,rfl,rfl⟩
theorem step_begin{D D':PDB}{zs:List Int}{u':Int}(h:Step D 0 [1] zs D' u')(h1:D.op.length<8):zs=[1,0]∧u'=D.begun+1:=by
 obtain ⟨c,hc,hk⟩:=ask_begin;unfold Step at h;rw [hc] at h;simp only [hk] at h;rw [if_neg (by simp)] at h;unfold DoQ at h;rw [if_pos hk] at h;rcases h with ⟨h2,_⟩|⟨_,⟨_,h3,h4,_⟩|⟨h2,_⟩⟩
 ·exact absurd rfl h2
 ·exact ⟨h3,h4⟩
 ·exact absurd h1 h2
theorem RunX.one{m:Nat}{x x':ShX}{xs ys o:List Int}{d:Int}(h:RunX m x xs x' ys o d){k:Nat}(hz:sizeF xs=((k:Int),0)):∃ s zs o',StX m x ((xs.drop 4).take k) s zs∧RunX m s (xs.drop (4+k)) x' ys o' d∧o=leB (zs.length:Int) 4++zs++o':=by
 cases h with
 | stop _ _ h=>rw [hz] at h;simp at h
 | long _ _ h=>rw [hz] at h;simp at h
 | step _ _ k' s1 zs _ _ o1 _ h hs hr=>
  rw [hz] at h;simp only [Prod.mk.injEq,and_true] at h;have h':k=k':=by omega
  subst h';exact ⟨s1,zs,o1,hs,hr,rfl⟩
theorem fed_none{m:Nat}{x x':ShX}{q u o:List Int}{q':List Int×Int}{er:Int}(h:FedX m x q u x' q' o er)(hz:sizeF (q++u)=(0,7)):x'=x∧q'=(q++u,0)∧o=[]∧er=0:=by
 rcases h with ⟨h1,h2,h3⟩|⟨x1,o1,h1,_⟩
 ·obtain ⟨a,b,c,_⟩:=h1.done hz;exact ⟨a,by rw [←h2,←b],c,h3⟩
 ·have:=(h1.done hz).2.2.2;omega
theorem fed_one{m:Nat}{x x':ShX}{q u o:List Int}{q':List Int×Int}{er:Int}(h:FedX m x q u x' q' o er){k:Nat}(hz:sizeF (q++u)=((k:Int),0))(hz2:sizeF ((q++u).drop (4+k))=(0,7)):∃ zs,StX m x (((q++u).drop 4).take k) x' zs∧q'=((q++u).drop (4+k),0)∧o=leB (zs.length:Int) 4++zs∧er=0:=by
 rcases h with ⟨h1,h2,h3⟩|⟨x1,o1,h1,_⟩
 ·obtain ⟨s,zs,o',a,b,c⟩:=h1.one hz;obtain ⟨d1,d2,d3,_⟩:=b.done hz2;subst d1;exact ⟨zs,a,by rw [←h2,←d2],by rw [c,d3];simp,h3⟩
 ·obtain ⟨s,zs,o',a,b,c⟩:=h1.one hz;have:=(b.done hz2).2.2.2;omega
theorem kz_feed1{w W:World}{p g:Nat}{Z:List Nat}(h:SchZ W w.heap.size w.heap.size p g 2 (0,newP 1,[0,0]) [([],0),([],0)] Z)(hb:Below w.heap.size w W) :
  Calls prog 29 #[.pointer (some ⟨g,0,none⟩),.int .i64 0,.slice (some ⟨W.heap.size,0,none⟩) 3 3] (W.alloc (.cells #[.int .u8 1,.int .u8 0,.int .u8 0] 5)) fun e w'=>∃ a c Z',e=.returned (.tuple #[.slice a 0 c,.int .i64 0])∧SchZ w' w.heap.size w.heap.size p g 2 (0,newP 1,[0,0]) [([1,0,0],0),([],0)] Z'∧Below w.heap.size w w':=by
 have k:Only [] W (W.alloc (.cells #[.int .u8 1,.int .u8 0,.int .u8 0] 5)):=(Ω [] W).alloc _;have h1:=h.only k (by simp);have hu:=lit_rd W [1,0,0] (by simp);refine (feed_z (m:=0) (u:=⟨some ⟨W.heap.size,0,none⟩,3,[1,0,0]⟩) h1 (Nat.le_trans hb.size k.size) rfl hu (by intro x hx;simp at hx;omega) (by simp) (by simp)).mono ?_;rintro e w' ⟨v,x',q',o,er,Z',hX,rfl,ho,hs,hO,hkp,_⟩;obtain ⟨rfl,rfl,rfl,rfl⟩:=fed_none hX (show sizeF [1,0,0]=(0,7) by decide);obtain ⟨a,c,rfl,_,_⟩:=own_shape ho;exact ⟨a,c,Z',rfl,hs,(hb.trans (k.toBelow hb.size (by simp))).trans (hO.toBelow (Nat.le_trans hb.size k.size) fun b hb=>h.ge b hb)⟩
theorem kz_feed2{w W:World}{p g:Nat}{Z:List Nat}(h:SchZ W w.heap.size w.heap.size p g 2 (0,newP 1,[0,0]) [([1,0,0],0),([],0)] Z)(hb:Below w.heap.size w W) :
  Calls prog 29 #[.pointer (some ⟨g,0,none⟩),.int .i64 0,.slice (some ⟨W.heap.size,0,none⟩) 2 2] (W.alloc (.cells #[.int .u8 0,.int .u8 1] 5)) fun e w'=>∃ a c,e=.returned (.tuple #[.slice a 6 c,.int .i64 0])∧Ints .u8 w' (.slice a 6 c) [2,0,0,0,1,0]∧Calls prog 31 #[.pointer (some ⟨g,0,none⟩),.int .i64 0] w' (fun e w2=>e=.returned (.int .u64 1)∧w2=w')∧Calls prog 31 #[.pointer (some ⟨g,0,none⟩),.int .i64 1] w' (fun e w2=>e=.returned (.int .u64 0)∧w2=w')∧Below w.heap.size w w':=by
 have k:Only [] W (W.alloc (.cells #[.int .u8 0,.int .u8 1] 5)):=(Ω [] W).alloc _;have h1:=h.only k (by simp);have hu:=lit_rd W [0,1] (by simp);refine (feed_z (m:=0) (u:=⟨some ⟨W.heap.size,0,none⟩,2,[0,1]⟩) h1 (Nat.le_trans hb.size k.size) rfl hu (by intro x hx;simp at hx;omega) (by simp) (by simp)).mono ?_;rintro e w' ⟨v,x',q',o,er,Z',hX,rfl,ho,hs,hO,hkp,_⟩;obtain ⟨zs,hst,rfl,rfl,rfl⟩:=fed_one hX (k:=1) (show sizeF [1,0,0,0,1]=(((1:Nat):Int),0) by decide) (show sizeF []=(0,7) by decide);obtain ⟨u,u',a1,a2,a3,a4,_⟩:=hst;cases (Option.some.inj a1:(0:Int)=u);obtain ⟨rfl,rfl⟩:=step_begin a2 (by simp [newP]);have hi:=ints_own ho;obtain ⟨a,c,rfl,_,_⟩:=own_shape ho;refine ⟨a,c,rfl,hi,txn_z (m:=0) hs (by rw [a4];rfl),txn_z (m:=1) hs (by rw [a4];rfl),(hb.trans (k.toBelow hb.size (by simp))).trans (hO.toBelow (Nat.le_trans hb.size k.size) fun b hb=>h.ge b hb)⟩
theorem known_z(w:World):Calls prog 25 #[] w fun e w'=>e=.returned (.bool true)∧Below w.heap.size w w':=by
 have N1:=Ξ (new_on 1 w (by omega) (by omega));go_enter func25,ntmps25;go_wp2_with fail;refine N1.out.mono ?_;rintro _ wa ⟨p,F,H,rfl,hd,hb⟩;have HD:=Ξ (Ψ hd hb);have N2:=Ξ (new_z (n:=2) hd hb.size (by omega) (by omega) (by omega) (by omega));clear hd hb N1;go_wp2_with fail;refine N2.out.mono ?_;rintro _ w1 ⟨g,Z,rfl,hs,hO,_⟩;have B1:=Ξ (HD.out.2.trans (hO.toBelow HD.out.2.size (by simp)));have F1':=Ξ (kz_feed1 hs B1.out);clear hs hO N2 HD B1;go_wp2_with fail;refine F1'.out.mono ?_;rintro _ w2 ⟨a,c,Z2,rfl,hs,hb⟩;have F2':=Ξ (kz_feed2 hs hb);clear hs hb F1';go_wp2_with fail;refine F2'.out.mono ?_;rintro _ w3 ⟨a2,c2,rfl,hi,x0,x1,hb⟩;have CV:=conv_ints hi;have es:strOfNums [2,0,0,0,1,0]=⟨#[2,0,0,0,1,0]⟩:=by decide
 rw [es] at CV;have X0:=Ξ x0;have X1:=Ξ x1;have B3:=Ξ hb;clear hi x0 x1 hb F2';go_wp2_with fail;refine X0.out.mono ?_;rintro _ w4 ⟨rfl,hw⟩;subst w4;go_wp2_with fail;refine X1.out.mono ?_;rintro _ w4 ⟨rfl,hw⟩;subst w4;go_wp2_with fail;go_ret;exact ⟨rfl,B3.out⟩
end Go.Proofs.YtcgmgdjeamidlaaGreat
