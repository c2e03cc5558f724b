/- Printed small by mini.py. -/
import Derived.Test.YtcgmgdjeamidlaaGreatRsO
namespace Go.Proofs.YtcgmgdjeamidlaaGreat
set_option maxRecDepth 100000
set_option maxHeartbeats 16000000
open Go.RowKit Go.ChangeShapes Go.WideShapes Go.ChangeAt Go.Proofs.Tryz
set_option linter.unusedVariables false
set_option linter.unusedSimpArgs false
set_option maxHeartbeats 16000000
theorem KnS.same{w:World}{t p ss:Nat}{D:PDB}{u:Int}{F H:List Nat}{wr y:World}(h:KnS w t p ss D u F H wr)(k:Only [] wr y):KnS w t p ss D u F H y:=
 ⟨⟨h.cx.db.only k (by simp),Nat.le_trans h.cx.base k.size,h.cx.good,h.cx.lim,h.cx.row.only k (by simp),h.cx.ap⟩,h.bl.trans (k.toBelow h.bl.size (by simp)),h.lo⟩
theorem KnV.same{w:World}{ss:Nat}{F:List Nat}{wr y:World}{v:Value}{xs:List Int}(h:KnV w ss F wr v xs)(k:Only [] wr y):KnV w ss F y v xs:=⟨own_keep h.1 fun b hb=>k.block b (h.1.lt b hb).2 (by simp),h.2⟩
theorem lit_rd64(w:World)(x:Int):SlRd .u64 (w.alloc (.cells #[.int .u64 x] 34)) ⟨some ⟨w.heap.size,0,none⟩,1,[x]⟩:=by
 have hr:=Φ w #[.int .u64 x] 34;refine ⟨.inr ⟨w.heap.size,0,1,rfl,fun i hi=>?_⟩,fun _ b hb=>by simp [Sl.bs] at hb;subst hb;simp,fun h=>by simp at h,by simp⟩;rcases i with _|i
 ·exact hr.cell 0
 ·simp at hi
theorem good_new1:Good 0 (newP 1):=⟨⟨by simp [newP],by simp [newP]⟩,by simp [newP,vsOf,Vs.no],by simp [newP],by simp [newP],⟨[],by simp,by simp [newP],by simp [newP]⟩,by simp [newP,vsOf,Vs.no],by simp [newP],by simp [newP],by simp [newP]⟩
def rq1:Rq:=⟨1,⟨0,Sl.no,Sl.no⟩,0,0,0,Sl.no,Sl.no,0⟩
def rq2(g:Nat):Rq:=⟨10,⟨1,Sl.no,Sl.no⟩,0,0,0,Sl.no,⟨some ⟨g,0,none⟩,1,[4612811918334230528]⟩,0⟩
def rq3:Rq:=⟨4,⟨0,Sl.no,Sl.no⟩,1,0,0,Sl.no,Sl.no,0⟩
theorem rq1_ask(w:World):Calls prog 16 #[.agg #[.int .i64 1,.int .u64 0,.slice none 0 0,.slice none 0 0,.int .u64 0,.int .u64 0,.int .i64 0,.slice none 0 0,.slice none 0 0,.int .i64 0]] w (Gives (Qc.bare 1).form w):=
 ask_on' (x:=rq1) ⟨⟨SlRd.no _ _,SlRd.no _ _,IsBy.nil⟩,SlRd.no _ _,SlRd.no _ _⟩ ⟨by simp [rq1],by simp [rq1],by simp [rq1,Sl.no],by simp [rq1,Sl.no]⟩
theorem rq2_ask(w:World):Calls prog 16 #[.agg #[.int .i64 10,.int .u64 1,.slice none 0 0,.slice none 0 0,.int .u64 0,.int .u64 0,.int .i64 0,.slice none 0 0,.slice (some ⟨w.heap.size,0,none⟩) 1 1,.int .i64 0]] (w.alloc (.cells #[.int .u64 4612811918334230528] 34)) (Gives pfC.form (w.alloc (.cells #[.int .u64 4612811918334230528] 34))):=
 ask_on' (x:=rq2 w.heap.size) ⟨⟨SlRd.no _ _,SlRd.no _ _,IsBy.nil⟩,SlRd.no _ _,lit_rd64 w _⟩ ⟨by simp [rq2],by simp [rq2],by simp [rq2,Sl.no],by simp [rq2]⟩
theorem rq3_ask(w:World):Calls prog 16 #[.agg #[.int .i64 4,.int .u64 0,.slice none 0 0,.slice none 0 0,.int .u64 1,.int .u64 0,.int .i64 0,.slice none 0 0,.slice none 0 0,.int .i64 0]] w (Gives gtC.form w):=
 ask_on' (x:=rq3) ⟨⟨SlRd.no _ _,SlRd.no _ _,IsBy.nil⟩,SlRd.no _ _,SlRd.no _ _⟩ ⟨by simp [rq3],by simp [rq3],by simp [rq3,Sl.no],by simp [rq3,Sl.no]⟩
theorem fm1:IsBy (Qc.bare 1).form∧(Qc.bare 1).form.length≤1000000:=⟨IsBy.one (by simp [Qc.bare]) (by simp [Qc.bare]),by show [(1:Int)].length≤_;simp⟩
theorem fm2:IsBy pfC.form∧pfC.form.length≤1000000:=by
 have e:pfC.form=[10]++leB 1 8++[0]++(uvB 1++flsB [4612811918334230528])++textB []:=by simp [Qc.form,pfC]
 rw [e];refine ⟨((((IsBy.one (by omega) (by omega)).append (leB_by _ _)).append (IsBy.one (by omega) (by omega))).append ((uvB_by _).append (flsB_by _))).append (textB_by IsBy.nil),?_⟩;unfold textB;simp [leB_len,flsB_len,uvB_small]
theorem fm3:IsBy gtC.form∧gtC.form.length≤1000000:=by
 have e:gtC.form=[4]++leB 1 8:=by simp [Qc.form,gtC]
 rw [e];exact ⟨(IsBy.one (by omega) (by omega)).append (leB_by _ _),by simp [leB_len]⟩
theorem known23(w:World):Calls prog 11 #[] w fun e w'=>e=.returned (.bool true)∧Below w.heap.size w w':=by
 have N1:=Ξ (new_on 1 w (by omega) (by omega));go_enter func11,ntmps11;go_wp2_with fail;refine N1.out.mono ?_;rintro _ wa ⟨p,F,H,rfl,hd,hb⟩;have S1:=Ξ (sess_new (baseV p) ⟨_,_,rfl⟩ wa);have K0:Hid (KnS w 0 p wa.heap.size (newP 1) 0 F H (wa.alloc (.cells #[baseV p,.int .u64 0] tSs))):=Ξ (by have k:Only [] wa (wa.alloc (.cells #[baseV p,.int .u64 0] tSs)):=(Ω [] wa).alloc _;exact ⟨⟨hd.only k (by simp),Nat.le_trans hb.size k.size,good_new1,by omega,Φ wa _ _,⟨fun hm=>by have:=hd.lt.1 _ hm;omega,fun hm=>by have:=hd.lt.2 _ hm;omega⟩⟩,hb.trans (k.toBelow hb.size (by simp)),hb.size⟩)
 clear N1 hd hb;go_wp2_with fail;refine S1.out.mono ?_;rintro _ wb ⟨rfl,hw⟩;subst hw;generalize wa.heap.size=ss at *;generalize wa.alloc (.cells #[baseV p,.int .u64 0] tSs)=wb at *;have A1:=Ξ (rq1_ask wb);clear S1;go_wp2_with fail;refine A1.out.mono ?_;intro e w1 hg;obtain ⟨v1,rfl,hdo⟩:=kn_do K0.out fm1.1 fm1.2 (by omega) hg;have DO:=Ξ hdo;clear hg hdo A1 K0;go_wp2_with fail;refine DO.out.mono ?_;rintro _ w2 ⟨va,zs,D',u',F',H',rfl,hst,hk,hv,_⟩;obtain ⟨rfl,rfl,a,b,rfl⟩:=bgn_step hst (by simp [newP]);have K2:Hid (KnS w 1 p ss (beginP (newP 1) a b) 1 F' H' (w2.alloc (.cells #[.int .u64 4612811918334230528] 34))):=Ξ (hk.same ((Ω [] w2).alloc _));have VA:Hid (KnV w ss F' (w2.alloc (.cells #[.int .u64 4612811918334230528] 34)) va [1,0]):=Ξ (hv.same ((Ω [] w2).alloc _));have A2:=Ξ (rq2_ask w2);clear hst hk hv DO;go_wp2_with fail;refine A2.out.mono ?_;generalize w2.alloc (.cells #[.int .u64 4612811918334230528] 34)=w3 at *;intro e w4 hg;obtain ⟨v4,rfl,hdo⟩:=kn_do K2.out fm2.1 fm2.2 (by omega) hg;have DO:=Ξ hdo;clear hg hdo A2 K2;go_wp2_with fail;refine DO.out.mono ?_;rintro _ w5 ⟨vb,zs,D',u',F2,H2,rfl,hst,hk,hv,hkeep⟩;obtain ⟨rfl,rfl,ver,hver,rfl⟩:=pf_step hst;have K5:=Ξ hk;have VB:=Ξ (Ψ hv (hkeep va _ VA.out));have VR:=Ξ hver;have A3:=Ξ (rq3_ask w5);clear hst hk hv hkeep DO VA hver;go_wp2_with fail;refine A3.out.mono ?_;intro e w6 hg;obtain ⟨v6,rfl,hdo⟩:=kn_do K5.out fm3.1 fm3.2 (by omega) hg;have DO:=Ξ hdo;clear hg hdo A3 K5;go_wp2_with fail;refine DO.out.mono ?_;rintro _ w7 ⟨vc',zs,D',u',F3,H3,rfl,hst,hk,hv,hkeep⟩;have hz:=gt_step VR.out hst;subst hz;have VC:=Ξ (Ψ (hkeep vb _ VB.out.1) (hkeep va _ VB.out.2));have BL7:=Ξ hk.bl;obtain ⟨s7,rfl,ex7,hr7,_,hc7⟩:=own_sl hv.1 (by simp [itemB,textB,leB_len,vecB_len,uvB_small]);have RT:=Ξ (rreadtell3 (key:=1) (vec:=[2]) (tag:=[]) hr7 ex7 (by first|exact hc7|(rw [ex7];exact hc7)) (by omega) (by simp) (by simp) (by simp) (by simp) IsBy.nil);clear hst hk hv hkeep DO ex7 hr7 hc7 VB VR;go_wp2_with fail;refine RT.out.mono ?_;rintro _ w8 ⟨a1,n1,c1,a2,n2,c2,rfl,hv8,ht8,hn1,hn2,hb8⟩;simp only [List.length_cons,List.length_nil] at hn1 hn2;subst hn1;subst hn2;have k9:Only [] w7 (w8.alloc (.cells #[.int .i64 3,.int .i64 0,.int .i64 0,.int .i64 0,.int .u64 1,.slice a1 (0+1) c1,.slice a2 0 c2,.slice none 0 0,.slice none 0 0] tRp)):=((Ω [] w7).below hb8).alloc _;have R9:=Φ w8 #[.int .i64 3,.int .i64 0,.int .i64 0,.int .i64 0,.int .u64 1,.slice a1 (0+1) c1,.slice a2 0 c2,.slice none 0 0,.slice none 0 0] tRp;have y0:=R9.cell 0;have y5:=R9.cell 5;have CA:=conv_ints (ints_own (VC.out.2.same k9).1);have CB:=conv_ints (ints_own (VC.out.1.same k9).1);have ea:strOfNums [1,0]=⟨#[1,0]⟩:=by decide
 have eb:strOfNums [1,1]=⟨#[1,1]⟩:=by decide
 rw [ea] at CA;rw [eb] at CB;obtain ⟨b9,o9,hb9,hc9⟩:=(hv8.only ((Ω [] w8).alloc (.cells #[.int .i64 3,.int .i64 0,.int .i64 0,.int .i64 0,.int .u64 1,.slice a1 (0+1) c1,.slice a2 0 c2,.slice none 0 0,.slice none 0 0] tRp)) (by simp)).at_ (j:=0) (z:=2) rfl;simp only at hb9;subst hb9;have x9:=hc9 0 2 rfl;have BE:=Ξ (BL7.out.trans (k9.toBelow BL7.out.size (by simp)));simp only [Nat.zero_add,Nat.add_zero] at y0 y5 x9 CA CB BE ⊢;clear R9 k9 hv8 ht8 hb8 hc9 RT;go_wp2_with fail;go_ret;exact ⟨rfl,BE.out⟩
end Go.Proofs.YtcgmgdjeamidlaaGreat
