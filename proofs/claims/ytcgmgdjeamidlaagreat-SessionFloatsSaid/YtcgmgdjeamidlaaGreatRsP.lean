/- Texts of one proof, joined. -/
import Derived.Test.YtcgmgdjeamidlaaGreatMg38
import Derived.Test.YtcgmgdjeamidlaaGreatRsM
namespace Go.Proofs.YtcgmgdjeamidlaaGreat
set_option maxRecDepth 100000
set_option maxHeartbeats 16000000
open Go.RowKit Go.ChangeShapes Go.WideShapes Go.ChangeAt Go.Proofs.Tryz
set_option linter.unusedVariables false
set_option linter.unusedSimpArgs false
inductive Qc.Ok:Qc→Prop
 | bare (k:Int) (h:k=1∨k=7∨k=8∨k=9):Qc.Ok (Qc.bare k)
 | put (ik:Int) (vec tag:List Int) (k0:0≤ik) (k1:ik<18446744073709551616) (v0:0<vec.length) (v1:vec.length≤4096) (vr:∀ x∈vec,-2147483648≤x∧x<2147483648) (t1:tag.length≤1024) (tb:IsBy tag):Qc.Ok { Qc.bare 2 with ik:=ik,vec:=vec,tag:=tag }
 | key (k key:Int) (h:k=3∨k=4) (k0:0≤key) (k1:key<18446744073709551616):Qc.Ok { Qc.bare k with key:=key }
 | range (key hi n:Int) (k0:0≤key) (k1:key<18446744073709551616) (h0:0≤hi) (h1:hi<18446744073709551616) (n0:0≤n) (n1:n≤50):Qc.Ok { Qc.bare 5 with key:=key,hi:=hi,n:=n }
 | knn (n:Int) (q:List Int) (n0:0≤n) (n1:n≤50) (q1:q.length≤4096) (qr:∀ x∈q,-2147483648≤x∧x<2147483648):Qc.Ok { Qc.bare 6 with n:=n,q:=q }
 | putf (ik sc:Int) (fl tag:List Int) (k0:0≤ik) (k1:ik<18446744073709551616) (s0 : -64≤sc) (s1:sc≤64) (f1:fl.length≤4096) (fr:∀ x∈fl,0≤x∧x<18446744073709551616) (t1:tag.length≤1024) (tb:IsBy tag):Qc.Ok { Qc.bare 10 with ik:=ik,sc:=sc,fl:=fl,tag:=tag }
 | knnf (n sc:Int) (fl:List Int) (n0:0≤n) (n1:n≤50) (s0 : -64≤sc) (s1:sc≤64) (f1:fl.length≤4096) (fr:∀ x∈fl,0≤x∧x<18446744073709551616):Qc.Ok { Qc.bare 11 with n:=n,sc:=sc,fl:=fl }
theorem lst8_form(l rest:List Int)(hl:l.length≤4096)(hr:∀ x∈l,0≤x∧x<18446744073709551616):lstF 8 (uvB l.length++(flsB l++rest)) 0=(l,rest,0):=by
 have h:=lstF_form 8 (fun v=>leB v 8) (fun x=>x) l rest (fun x=>leB_len _ _) hl fun x hx=>leV_leB 8 _ (hr x hx).1 (by have:=(hr x hx).2;omega)
 rwa [List.map_id'] at h
theorem i8_mod(s:Int)(h0 : -64≤s)(h1:s≤64):i8 (s % 256)=s:=by unfold i8;split<;>omega
theorem read_form{c:Qc}(h:c.Ok):readQ c.form=c:=by
 cases h with
 | bare k h=>
  have hf:(Qc.bare k).form=[k]:=by unfold Qc.form Qc.bare;simp only;rw [if_neg (by omega),if_neg (by omega),if_neg (by omega),if_neg (by omega),if_neg (by omega),if_neg (by omega)]
  have h1:=fixF_one k (by omega) (by omega) [];rw [List.append_nil] at h1;rw [hf];unfold readQ;rw [h1];simp only;rw [if_neg (by omega),if_neg (by omega),if_neg (by omega),if_neg (by omega),if_neg (by omega),if_neg (by omega)]
 | put ik vec tag k0 k1 v0 v1 vr t1 tb=>
  unfold Qc.form Qc.bare;simp only [if_true];unfold readQ;rw [fixF_one 2 (by omega) (by omega)];simp only [if_true];have hd:List.drop 1 ([(2:Int)]++itemB (ik,vec,tag))=itemB (ik,vec,tag):=rfl;rw [hd,rdItem_form ik vec tag k0 k1 v0 v1 vr t1];rfl
 | key k key h k0 k1=>
  unfold Qc.form Qc.bare;simp only;rw [if_neg (by omega),if_pos h];unfold readQ;have h1:=fixF_le 8 key k0 (by omega) [];rw [List.append_nil] at h1;rw [fixF_one k (by omega) (by omega)];simp only;rw [if_neg (by omega),if_pos h,h1];rfl
 | range key hi n k0 k1 h0 h1 n0 n1=>
  unfold Qc.form Qc.bare;simp only;rw [if_neg (by omega),if_neg (by omega),if_pos trivial];unfold readQ;have h2:=fixF_one n n0 (by omega) [];rw [List.append_nil] at h2;simp only [List.append_assoc];rw [fixF_one 5 (by omega) (by omega)];simp only;rw [if_neg (by omega),if_neg (by omega),if_pos trivial,fixF_le 8 key k0 (by omega)];simp only;rw [fixF_le 8 hi h0 (by omega)];simp only;rw [h2];rfl
 | knn n q n0 n1 q1 qr=>
  unfold Qc.form Qc.bare;simp only;rw [if_neg (by omega),if_neg (by omega),if_neg (by omega),if_pos trivial];unfold readQ;have h2:=lst4_form q [] q1 qr;rw [List.append_nil] at h2;simp only [List.append_assoc];rw [fixF_one 6 (by omega) (by omega)];simp only;rw [if_neg (by omega),if_neg (by omega),if_neg (by omega),if_pos trivial,fixF_one n n0 (by omega)];simp only;rw [h2];simp only;rw [map_i32 q qr];rfl
 | putf ik sc fl tag k0 k1 s0 s1 f1 fr t1 tb=>
  unfold Qc.form Qc.bare;simp only;rw [if_neg (by omega),if_neg (by omega),if_neg (by omega),if_neg (by omega),if_pos trivial];unfold readQ;have h2:=txtF_text 1024 tag [] t1 (by omega);rw [List.append_nil] at h2;simp only [List.append_assoc];rw [fixF_one 10 (by omega) (by omega)];simp only;rw [if_neg (by omega),if_neg (by omega),if_neg (by omega),if_neg (by omega),if_pos trivial,fixF_le 8 ik k0 (by omega)];simp only;rw [fixF_one (sc % 256) (by omega) (by omega)];simp only;rw [lst8_form fl _ f1 fr];simp only;rw [h2,i8_mod sc s0 s1];rfl
 | knnf n sc fl n0 n1 s0 s1 f1 fr=>
  unfold Qc.form Qc.bare;simp only;rw [if_neg (by omega),if_neg (by omega),if_neg (by omega),if_neg (by omega),if_neg (by omega),if_pos trivial];unfold readQ;have h2:=lst8_form fl [] f1 fr;rw [List.append_nil] at h2;simp only [List.append_assoc];rw [fixF_one 11 (by omega) (by omega)];simp only;rw [if_neg (by omega),if_neg (by omega),if_neg (by omega),if_neg (by omega),if_neg (by omega),if_pos trivial,fixF_one n n0 (by omega)];simp only;rw [fixF_one (sc % 256) (by omega) (by omega)];simp only;rw [h2,i8_mod sc s0 s1];rfl
theorem may_ok{c:Qc}(h:c.Ok):c.may=true:=by
 cases h with
 | bare k h=>unfold Qc.may Qc.bare;simp only;rw [if_neg (by omega),if_neg (by omega),if_neg (by omega),if_neg (by omega),if_neg (by omega)];exact Γ h
 | put ik vec tag k0 k1 v0 v1 vr t1 tb=>unfold Qc.may Qc.bare;simp only [if_true];exact Γ v0
 | key k key h k0 k1=>unfold Qc.may Qc.bare;simp only;rw [if_neg (by omega),if_pos h]
 | range key hi n k0 k1 h0 h1 n0 n1=>unfold Qc.may Qc.bare;simp;omega
 | knn n q n0 n1 q1 qr=>unfold Qc.may Qc.bare;simp;omega
 | putf ik sc fl tag k0 k1 s0 s1 f1 fr t1 tb=>unfold Qc.may Qc.bare;simp;omega
 | knnf n sc fl n0 n1 s0 s1 f1 fr=>unfold Qc.may Qc.bare;simp;omega
theorem askQ_form{c:Qc}(h:c.Ok):askQ c.form=some c:=by unfold askQ;rw [read_form h,if_pos ⟨may_ok h,rfl⟩]
theorem step_of{D D':PDB}{u u':Int}{c:Qc}{zs:List Int}(hc:c.Ok)(hu:¬ (u=0∧c.kind≠1∧c.kind≠9))(h:Step D u c.form zs D' u'):DoQ D u c zs D' u':=by unfold Step at h;rw [askQ_form hc] at h;simp only at h;rw [if_neg hu] at h;exact h
theorem bgn_step{D D':PDB}{zs:List Int}{u':Int}(h:Step D 0 (Qc.bare 1).form zs D' u')(h1:D.op.length<8):zs=[1,0]∧u'=D.begun+1∧∃ a b,D'=beginP D a b:=by
 have h:=step_of (.bare 1 (.inl rfl)) (by simp [Qc.bare]) h;unfold DoQ at h;rw [if_pos (show (Qc.bare 1).kind=1 from rfl)] at h;rcases h with ⟨h2,_⟩|⟨_,⟨_,h3,h4,h5⟩|⟨h2,_⟩⟩
 ·exact absurd rfl h2
 ·exact ⟨h3,h4,h5⟩
 ·exact absurd h1 h2
def pfC:Qc:=⟨10,1,[],[],0,0,0,[],[4612811918334230528],0⟩
def gtC:Qc:=⟨4,0,[],[],1,0,0,[],[],0⟩
theorem pf_ok:pfC.Ok:=.putf 1 0 [4612811918334230528] [] (by omega) (by omega) (by omega) (by omega) (by simp) (by simp) (by simp) IsBy.nil
theorem gt_ok:gtC.Ok:=.key 4 1 (.inr rfl) (by omega) (by omega)
theorem pf_all:quF pfC=([2],1,0,0):=by decide +kernel
theorem pf_step{D':PDB}{zs:List Int}{u':Int}{a b:Nat}(h0:Step (beginP (newP 1) a b) 1 pfC.form zs D' u'):zs=[1,1]∧u'=1∧∃ v:Ver,vK v=(0,false,1,[2],[])∧D'=wroteP (beginP (newP 1) a b) 1 1 v:=by
 have h:=step_of pf_ok (by simp) h0;clear h0;unfold DoQ at h;simp only [pfC] at h;simp only [show ¬ ((10:Int)=1) by omega,show ¬ ((10:Int)=2) by omega,show ¬ ((10:Int)=3) by omega,show ¬ ((10:Int)=4) by omega,show ¬ ((10:Int)=5) by omega,show ¬ ((10:Int)=6) by omega,show ¬ ((10:Int)=7) by omega,show ¬ ((10:Int)=8) by omega,show ¬ ((10:Int)=9) by omega,if_false,if_true] at h;obtain ⟨h,rfl⟩:=h;have e:=pf_all;unfold pfC at e;unfold PutFS at h;rw [e] at h;rcases h with ⟨h1,_⟩|⟨_,h⟩
 ·exact absurd rfl h1
 ·rcases h with ⟨h1,_⟩|⟨o,h1,⟨h2,_⟩|⟨_,h3,h4⟩⟩
  ·simp [findP,beginP,newP] at h1
  ·exact absurd rfl h2
  ·exact ⟨h3,rfl,h4⟩
theorem gt_step{D':PDB}{zs:List Int}{u':Int}{a b:Nat}{v:Ver}(hv:vK v=(0,false,1,[2],[]))(h0:Step (wroteP (beginP (newP 1) a b) 1 1 v) 1 gtC.form zs D' u'):zs=[3]++itemB (1,[2],[]):=by
 have h:=step_of gt_ok (by simp) h0;clear h0;unfold DoQ at h;simp only [gtC] at h;simp only [show ¬ ((4:Int)=1) by omega,show ¬ ((4:Int)=2) by omega,show ¬ ((4:Int)=3) by omega,if_false,if_true] at h;obtain ⟨h,_⟩:=h;unfold vK at hv;simp only [Prod.mk.injEq] at hv;obtain ⟨_,v2,v3,v4,v5⟩:=hv;rcases h with ⟨h1,_⟩|⟨o,h1,h2⟩
 ·simp [findP,beginP,newP,wroteP] at h1
 ·have ho:o=⟨1,0,a,b,upV 1 v []⟩:=by simp [findP,beginP,newP,wroteP] at h1;exact h1.symm
  subst ho;have hs:visC (seesR (wroteP (beginP (newP 1) a b) 1 1 v) ⟨1,0,a,b,upV 1 v []⟩ 1)=some (1,[2],[]):=by simp [seesR,lkV,upV,visC,v2,v3,v4,v5]
  rw [hs] at h2;rcases h2 with ⟨h2,_⟩|⟨c,h2,h3⟩
  ·cases h2
  ·cases h2;exact h3
end Go.Proofs.YtcgmgdjeamidlaaGreat
namespace Go.Proofs.YtcgmgdjeamidlaaGreat
set_option maxRecDepth 100000
set_option maxHeartbeats 16000000
open Go.RowKit Go.ChangeShapes Go.WideShapes Go.ChangeAt Go.Proofs.Tryz
set_option linter.unusedVariables false
set_option linter.unusedSimpArgs false
set_option maxHeartbeats 16000000
theorem ask_on'{x:Rq}{w:World}(hx:x.At w)(hs:x.Small):Calls prog 16 #[.agg x.lit] w (Gives x.c.form w):=by
 have R:=Φ w x.lit tRq;obtain ⟨c0,c1,c2,c3,c4,c5,c6,c7,c8,c9⟩:=R.cs10;have F:=Ξ (rform_on (hx.below ((Δ _ w).alloc (Θ _) (.cells x.lit tRq))) hs);have BK:Hid (∀ e y,Gives x.c.form (w.alloc (.cells x.lit tRq)) e y→Gives x.c.form w e y):=Ξ fun e y h=>by obtain ⟨v,rfl,o,b⟩:=h;exact ⟨v,rfl,own_mono o (by simp),((Δ _ w).alloc (Θ _) _).trans (b.mono (by simp))⟩
 clear R hx hs;unfold Rq.cells Sl.v at F;go_enter func16,ntmps16;go_wp2_with fail;refine F.out.mono ?_;intro e y hg;have G:=Ξ (BK.out e y hg);obtain ⟨v,rfl,_⟩:=hg;go_wp2_with fail;go_ret;exact G.out
structure KnS(w:World)(t p ss:Nat)(D:PDB)(u:Int)(F H:List Nat)(wr:World):Prop where
 cx:Cx t w.heap.size p ss D u F H wr
 bl:Below w.heap.size w wr
 lo:w.heap.size≤ss
def KnV(w:World)(ss:Nat)(F:List Nat)(wr:World)(v:Value)(xs:List Int):Prop:=wr.ownsRow w.heap.size 5 1 v xs.length (xs.map (Value.int .u8))∧∀ b,v.ownBlock=some b→b∉F∧b≠ss
def KnTo(w:World)(t p ss:Nat)(D:PDB)(u:Int)(F:List Nat)(wr:World)(bs:List Int)(e:Ending)(w2:World):Prop:=∃ v zs D' u' F' H',e=.returned v∧Step D u bs zs D' u'∧KnS w (t+1) p ss D' u' F' H' w2∧KnV w ss F' w2 v zs∧∀ v' xs,KnV w ss F wr v' xs→KnV w ss F' w2 v' xs
theorem kn_do{w wr w1:World}{t p ss:Nat}{D:PDB}{u:Int}{F H:List Nat}{bs:List Int}{e:Ending}(h:KnS w t p ss D u F H wr)(hb:IsBy bs)(hl:bs.length≤1000000)(ht:t+1<300000)(hg:Gives bs wr e w1) :
  ∃ v,e=.returned v∧Calls prog 14 #[.pointer (some ⟨ss,0,none⟩),v] w1 (KnTo w t p ss D u F wr bs):=by
 obtain ⟨v,rfl,ho,hbl⟩:=hg;refine ⟨v,rfl,?_⟩;obtain ⟨s,rfl,ex,hr,hb2,hc⟩:=own_sl ho hl;have k:Only [] wr w1:=(Ω [] wr).below hbl;have sw:=h.bl.size;have s1:=k.size;have C1:Cx t w.heap.size p ss D u F H w1:=⟨h.cx.db.only k (by simp),Nat.le_trans h.cx.base s1,h.cx.good,h.cx.lim,h.cx.row.only k (by simp),h.cx.ap⟩;refine (do_on C1 hr (by rw [ex];exact hb) (by first|exact hc|(rw [ex];exact hc)) ht).mono ?_;rintro e w2 ⟨v2,zs,D',u',F',H',rfl,ho2,hst,hcx,hO,kF,kH,hoff⟩;rw [ex] at hst;have s2:=hO.size;have geF:=C1.db.ge;have ltF:=C1.db.lt;have ssl:=C1.row.lt;refine ⟨v2,zs,D',u',F',H',rfl,hst,⟨hcx,(h.bl.trans (k.toBelow sw (by simp))).trans (hO.toBelow (Nat.le_trans sw s1) (fun b hb=>by
  rcases List.mem_cons.1 hb with rfl|hb
  ·exact h.lo
  ·exact geF.1 b hb)),h.lo⟩,⟨own_mono ho2 (Nat.le_trans sw s1),fun b hb=>⟨(hoff b hb).2.1,fun e=>by have:=(hoff b hb).1;omega⟩⟩,fun v' xs hv=>⟨own_keep (own_keep hv.1 fun b hb=>k.block b (hv.1.lt b hb).2 (by simp)) fun b hb=>hO.block b (Nat.lt_of_lt_of_le (hv.1.lt b hb).2 s1) (by simp;exact ⟨(hv.2 b hb).2,(hv.2 b hb).1⟩),fun b hb=>⟨fun hm=>?_,(hv.2 b hb).2⟩⟩⟩
 rcases kF b hm with h9|h9
 ·exact (hv.2 b hb).1 h9
 ·have:=(hv.1.lt b hb).2;omega
theorem KnS.same{w:World}{t p ss:Nat}{D:PDB}{u:Int}{F H:List Nat}{wr y:World}(h:KnS w t p ss D u F H wr)(k:Only [] wr y):KnS w t p ss D u F H y:=
 ⟨⟨h.cx.db.only k (by simp),Nat.le_trans h.cx.base k.size,h.cx.good,h.cx.lim,h.cx.row.only k (by simp),h.cx.ap⟩,h.bl.trans (k.toBelow h.bl.size (by simp)),h.lo⟩
theorem KnV.same{w:World}{ss:Nat}{F:List Nat}{wr y:World}{v:Value}{xs:List Int}(h:KnV w ss F wr v xs)(k:Only [] wr y):KnV w ss F y v xs:=⟨own_keep h.1 fun b hb=>k.block b (h.1.lt b hb).2 (by simp),h.2⟩
theorem lit_rd64(w:World)(x:Int):SlRd .u64 (w.alloc (.cells #[.int .u64 x] 34)) ⟨some ⟨w.heap.size,0,none⟩,1,[x]⟩:=by
 have hr:=Φ w #[.int .u64 x] 34;refine ⟨.inr ⟨w.heap.size,0,1,rfl,fun i hi=>?_⟩,fun _ b hb=>by simp [Sl.bs] at hb;subst hb;simp,fun h=>by simp at h,by simp⟩;rcases i with _|i
 ·exact hr.cell 0
 ·simp at hi
theorem good_new1:Good 0 (newP 1):=⟨⟨by simp [newP],by simp [newP]⟩,by simp [newP,vsOf,Vs.no],by simp [newP],by simp [newP],⟨[],by simp,by simp [newP],by simp [newP]⟩,by simp [newP,vsOf,Vs.no],by simp [newP],by simp [newP],by simp [newP]⟩
def rq1:Rq:=⟨1,⟨0,Sl.no,Sl.no⟩,0,0,0,Sl.no,Sl.no,0⟩
def rq2(g:Nat):Rq:=⟨10,⟨1,Sl.no,Sl.no⟩,0,0,0,Sl.no,⟨some ⟨g,0,none⟩,1,[4612811918334230528]⟩,0⟩
def rq3:Rq:=⟨4,⟨0,Sl.no,Sl.no⟩,1,0,0,Sl.no,Sl.no,0⟩
theorem rq1_ask(w:World):Calls prog 16 #[.agg #[.int .i64 1,.int .u64 0,.slice none 0 0,.slice none 0 0,.int .u64 0,.int .u64 0,.int .i64 0,.slice none 0 0,.slice none 0 0,.int .i64 0]] w (Gives (Qc.bare 1).form w):=
 ask_on' (x:=rq1) ⟨⟨SlRd.no _ _,SlRd.no _ _,IsBy.nil⟩,SlRd.no _ _,SlRd.no _ _⟩ ⟨by simp [rq1],by simp [rq1],by simp [rq1,Sl.no],by simp [rq1,Sl.no]⟩
theorem rq2_ask(w:World):Calls prog 16 #[.agg #[.int .i64 10,.int .u64 1,.slice none 0 0,.slice none 0 0,.int .u64 0,.int .u64 0,.int .i64 0,.slice none 0 0,.slice (some ⟨w.heap.size,0,none⟩) 1 1,.int .i64 0]] (w.alloc (.cells #[.int .u64 4612811918334230528] 34)) (Gives pfC.form (w.alloc (.cells #[.int .u64 4612811918334230528] 34))):=
 ask_on' (x:=rq2 w.heap.size) ⟨⟨SlRd.no _ _,SlRd.no _ _,IsBy.nil⟩,SlRd.no _ _,lit_rd64 w _⟩ ⟨by simp [rq2],by simp [rq2],by simp [rq2,Sl.no],by simp [rq2]⟩
theorem rq3_ask(w:World):Calls prog 16 #[.agg #[.int .i64 4,.int .u64 0,.slice none 0 0,.slice none 0 0,.int .u64 1,.int .u64 0,.int .i64 0,.slice none 0 0,.slice none 0 0,.int .i64 0]] w (Gives gtC.form w):=
 ask_on' (x:=rq3) ⟨⟨SlRd.no _ _,SlRd.no _ _,IsBy.nil⟩,SlRd.no _ _,SlRd.no _ _⟩ ⟨by simp [rq3],by simp [rq3],by simp [rq3,Sl.no],by simp [rq3,Sl.no]⟩
theorem fm1:IsBy (Qc.bare 1).form∧(Qc.bare 1).form.length≤1000000:=⟨IsBy.one (by simp [Qc.bare]) (by simp [Qc.bare]),by show [(1:Int)].length≤_;simp⟩
theorem fm2:IsBy pfC.form∧pfC.form.length≤1000000:=by
 have e:pfC.form=[10]++leB 1 8++[0]++(uvB 1++flsB [4612811918334230528])++textB []:=by simp [Qc.form,pfC]
 rw [e];refine ⟨((((IsBy.one (by omega) (by omega)).append (leB_by _ _)).append (IsBy.one (by omega) (by omega))).append ((uvB_by _).append (flsB_by _))).append (textB_by IsBy.nil),?_⟩;unfold textB;simp [leB_len,flsB_len,uvB_small]
theorem fm3:IsBy gtC.form∧gtC.form.length≤1000000:=by
 have e:gtC.form=[4]++leB 1 8:=by simp [Qc.form,gtC]
 rw [e];exact ⟨(IsBy.one (by omega) (by omega)).append (leB_by _ _),by simp [leB_len]⟩
theorem known23(w:World):Calls prog 11 #[] w fun e w'=>e=.returned (.bool true)∧Below w.heap.size w w':=by
 have N1:=Ξ (new_on 1 w (by omega) (by omega));go_enter func11,ntmps11;go_wp2_with fail;refine N1.out.mono ?_;rintro _ wa ⟨p,F,H,rfl,hd,hb⟩;have S1:=Ξ (sess_new (baseV p) ⟨_,_,rfl⟩ wa);have K0:Hid (KnS w 0 p wa.heap.size (newP 1) 0 F H (wa.alloc (.cells #[baseV p,.int .u64 0] tSs))):=Ξ (by have k:Only [] wa (wa.alloc (.cells #[baseV p,.int .u64 0] tSs)):=(Ω [] wa).alloc _;exact ⟨⟨hd.only k (by simp),Nat.le_trans hb.size k.size,good_new1,by omega,Φ wa _ _,⟨fun hm=>by have:=hd.lt.1 _ hm;omega,fun hm=>by have:=hd.lt.2 _ hm;omega⟩⟩,hb.trans (k.toBelow hb.size (by simp)),hb.size⟩)
 clear N1 hd hb;go_wp2_with fail;refine S1.out.mono ?_;rintro _ wb ⟨rfl,hw⟩;subst hw;generalize wa.heap.size=ss at *;generalize wa.alloc (.cells #[baseV p,.int .u64 0] tSs)=wb at *;have A1:=Ξ (rq1_ask wb);clear S1;go_wp2_with fail;refine A1.out.mono ?_;intro e w1 hg;obtain ⟨v1,rfl,hdo⟩:=kn_do K0.out fm1.1 fm1.2 (by omega) hg;have DO:=Ξ hdo;clear hg hdo A1 K0;go_wp2_with fail;refine DO.out.mono ?_;rintro _ w2 ⟨va,zs,D',u',F',H',rfl,hst,hk,hv,_⟩;obtain ⟨rfl,rfl,a,b,rfl⟩:=bgn_step hst (by simp [newP]);have K2:Hid (KnS w 1 p ss (beginP (newP 1) a b) 1 F' H' (w2.alloc (.cells #[.int .u64 4612811918334230528] 34))):=Ξ (hk.same ((Ω [] w2).alloc _));have VA:Hid (KnV w ss F' (w2.alloc (.cells #[.int .u64 4612811918334230528] 34)) va [1,0]):=Ξ (hv.same ((Ω [] w2).alloc _));have A2:=Ξ (rq2_ask w2);clear hst hk hv DO;go_wp2_with fail;refine A2.out.mono ?_;generalize w2.alloc (.cells #[.int .u64 4612811918334230528] 34)=w3 at *;intro e w4 hg;obtain ⟨v4,rfl,hdo⟩:=kn_do K2.out fm2.1 fm2.2 (by omega) hg;have DO:=Ξ hdo;clear hg hdo A2 K2;go_wp2_with fail;refine DO.out.mono ?_;rintro _ w5 ⟨vb,zs,D',u',F2,H2,rfl,hst,hk,hv,hkeep⟩;obtain ⟨rfl,rfl,ver,hver,rfl⟩:=pf_step hst;have K5:=Ξ hk;have VB:=Ξ (Ψ hv (hkeep va _ VA.out));have VR:=Ξ hver;have A3:=Ξ (rq3_ask w5);clear hst hk hv hkeep DO VA hver;go_wp2_with fail;refine A3.out.mono ?_;intro e w6 hg;obtain ⟨v6,rfl,hdo⟩:=kn_do K5.out fm3.1 fm3.2 (by omega) hg;have DO:=Ξ hdo;clear hg hdo A3 K5;go_wp2_with fail;refine DO.out.mono ?_;rintro _ w7 ⟨vc',zs,D',u',F3,H3,rfl,hst,hk,hv,hkeep⟩;have hz:=gt_step VR.out hst;subst hz;have VC:=Ξ (Ψ (hkeep vb _ VB.out.1) (hkeep va _ VB.out.2));have BL7:=Ξ hk.bl;obtain ⟨s7,rfl,ex7,hr7,_,hc7⟩:=own_sl hv.1 (by simp [itemB,textB,leB_len,vecB_len,uvB_small]);have RT:=Ξ (rreadtell3 (key:=1) (vec:=[2]) (tag:=[]) hr7 ex7 (by first|exact hc7|(rw [ex7];exact hc7)) (by omega) (by simp) (by simp) (by simp) (by simp) IsBy.nil);clear hst hk hv hkeep DO ex7 hr7 hc7 VB VR;go_wp2_with fail;refine RT.out.mono ?_;rintro _ w8 ⟨a1,n1,c1,a2,n2,c2,rfl,hv8,ht8,hn1,hn2,hb8⟩;simp only [List.length_cons,List.length_nil] at hn1 hn2;subst hn1;subst hn2;have k9:Only [] w7 (w8.alloc (.cells #[.int .i64 3,.int .i64 0,.int .i64 0,.int .i64 0,.int .u64 1,.slice a1 (0+1) c1,.slice a2 0 c2,.slice none 0 0,.slice none 0 0] tRp)):=((Ω [] w7).below hb8).alloc _;have R9:=Φ w8 #[.int .i64 3,.int .i64 0,.int .i64 0,.int .i64 0,.int .u64 1,.slice a1 (0+1) c1,.slice a2 0 c2,.slice none 0 0,.slice none 0 0] tRp;have y0:=R9.cell 0;have y5:=R9.cell 5;have CA:=conv_ints (ints_own (VC.out.2.same k9).1);have CB:=conv_ints (ints_own (VC.out.1.same k9).1);have ea:strOfNums [1,0]=⟨#[1,0]⟩:=by decide
 have eb:strOfNums [1,1]=⟨#[1,1]⟩:=by decide
 rw [ea] at CA;rw [eb] at CB;obtain ⟨b9,o9,hb9,hc9⟩:=(hv8.only ((Ω [] w8).alloc (.cells #[.int .i64 3,.int .i64 0,.int .i64 0,.int .i64 0,.int .u64 1,.slice a1 (0+1) c1,.slice a2 0 c2,.slice none 0 0,.slice none 0 0] tRp)) (by simp)).at_ (j:=0) (z:=2) rfl;simp only at hb9;subst hb9;have x9:=hc9 0 2 rfl;have BE:=Ξ (BL7.out.trans (k9.toBelow BL7.out.size (by simp)));simp only [Nat.zero_add,Nat.add_zero] at y0 y5 x9 CA CB BE ⊢;clear R9 k9 hv8 ht8 hb8 hc9 RT;go_wp2_with fail;go_ret;exact ⟨rfl,BE.out⟩
end Go.Proofs.YtcgmgdjeamidlaaGreat
