/- Printed small by mini.py. -/
import Derived.Test.YtcgmgdjeamidlaaGreatMg38
namespace Go.Proofs.YtcgmgdjeamidlaaGreat
set_option maxRecDepth 100000
set_option maxHeartbeats 16000000
open Go.RowKit Go.ChangeShapes Go.WideShapes Go.ChangeAt Go.Proofs.Tryz
set_option linter.unusedVariables false
set_option linter.unusedSimpArgs false
inductive TellB:List Int→Prop
 | done (m:Int) (h0:0≤m) (h1:m≤7):TellB [1,m]
 | ref (e pl:Int) (e0:1≤e) (e1:e≤255) (e6:e≠6) (p0:0≤pl) (p1:pl<4096):TellB (refB e pl)
 | got (c:Rc) (h:okC c):TellB (gotB c)
 | items (L:List Rc) (h50:L.length≤50) (h:∀ c∈L,okC c):TellB (itemsB L)
 | hits (hs:List (Int×Int)) (h50:hs.length≤50) (h:∀ x∈hs,okH x):TellB (hitsB hs)
theorem in32_mem{xs:List Int}(h:vc.In32 xs):∀ z∈xs,-2147483648≤z∧z<2147483648:=fun z hz=>by obtain ⟨i,hi⟩:=List.mem_iff_getElem?.1 hz;have:=h i;rw [hi] at this;simp at this;omega
theorem RcGd.okc{dim key:Int}{c:Rc}(h:RcGd dim key c)(h1:1≤dim∧dim≤4096):okC c:=by have:=h.len;have h2:=h.keyed;exact ⟨by rw [h2];exact h.k0,by rw [h2];exact h.k1,by omega,by omega,in32_mem h.i32,h.tag,h.by_⟩
theorem readQ_q{b:List Int}(hb:IsBy b)(hk:(readQ b).kind=6):∀ z∈(readQ b).q,-2147483648≤z∧z<2147483648:=by
 have hx:IsBy (fixF 1 b 0).2.1:=fixF_by 1 hb 0;unfold readQ at hk ⊢;simp only at hk ⊢;by_cases k2:(fixF 1 b 0).1=2
 ·rw [if_pos k2] at hk;unfold putC at hk;split at hk<;>cases hk
 rw [if_neg k2] at hk ⊢;by_cases k3:(fixF 1 b 0).1=3∨(fixF 1 b 0).1=4
 ·rw [if_pos k3] at hk;have:(fixF 1 b 0).1=6:=hk;omega
 rw [if_neg k3] at hk ⊢;by_cases k5:(fixF 1 b 0).1=5
 ·rw [if_pos k5] at hk;cases hk
 rw [if_neg k5] at hk ⊢;by_cases k6:(fixF 1 b 0).1=6
 ·rw [if_pos k6];intro z hz;exact (lst32_range _ _ (fixF_by 1 hx _)).1 z hz
 rw [if_neg k6] at hk ⊢;by_cases k10:(fixF 1 b 0).1=10
 ·rw [if_pos k10] at hk;cases hk
 rw [if_neg k10] at hk ⊢;by_cases k11:(fixF 1 b 0).1=11
 ·rw [if_pos k11] at hk;cases hk
 rw [if_neg k11];intro z hz;simp [Qc.bare] at hz
theorem askQ_read{b:List Int}{c:Qc}(h:askQ b=some c):c=readQ b:=by
 unfold askQ at h;split at h
 ·cases h;rfl
 ·cases h
section
variable {t:Nat} {D D':PDB} {u u':Int} {b zs:List Int} {c:Qc}
theorem PutS.tells{ik m:Int}{vec tag:List Int}(h:PutS D u ik vec tag m zs D')(m0:0≤m)(m1:m≤7):TellB zs:=by
 rcases h with ⟨_,rfl,_⟩|⟨o,_,⟨_,rfl,_⟩|⟨_,rfl,_⟩⟩
 ·exact .ref 12 0 (by omega) (by omega) (by omega) (by omega) (by omega)
 ·exact .ref 9 0 (by omega) (by omega) (by omega) (by omega) (by omega)
 ·exact .done m m0 m1
theorem KnnS.tells(hg:Good t D){q:List Int}{n:Int}(h:KnnS D u q n zs)(hq:∀ z∈q,-2147483648≤z∧z<2147483648)(hn:n≤50):TellB zs:=by
 rcases h with ⟨_,rfl⟩|⟨o,ho,⟨_,rfl⟩|⟨hd,L,hL,rfl⟩⟩
 ·exact .ref 12 0 (by omega) (by omega) (by omega) (by omega) (by omega)
 ·exact .ref 9 0 (by omega) (by omega) (by omega) (by omega) (by omega)
 ·refine .hits _ (by rw [vc.firstF_len];unfold vc.askN;omega) fun h hh=>?_;obtain ⟨c2,hc2,rfl⟩:=List.mem_map.1 (hits_in hh);have g:=hg.listed (findP_some ho).1 hL c2 hc2;have hk0:=g.k0;have hk1:=g.k1;have hdim:=hg.dim;have hdist:0≤vc.distF c2.2.1 q∧vc.distF c2.2.1 q<9223372036854775808:=by
   unfold vc.distF;split
   ·have:=vc.distTo_bd c2.2.1 q g.i32 (in32_of hq) c2.2.1.length;omega
   ·omega
  exact ⟨hk0,hk1,hdist.1,hdist.2⟩
theorem step_tells(hg:Good t D)(hb:IsBy b)(h:Step D u b zs D' u'):TellB zs:=by
 unfold Step at h;cases hq:askQ b with
 | none=>
  rw [hq] at h;obtain ⟨rfl,_⟩:=h;exact .ref 4 0 (by omega) (by omega) (by omega) (by omega) (by omega)
 | some c=>
  rw [hq] at h;have mk:=may_kind (askQ_may hq);have hrq:=askQ_read hq;simp only at h;by_cases k:u=0∧c.kind≠1∧c.kind≠9
  ·rw [if_pos k] at h;obtain ⟨rfl,_⟩:=h;exact .ref 12 0 (by omega) (by omega) (by omega) (by omega) (by omega)
  rw [if_neg k] at h;unfold DoQ at h;by_cases k1:c.kind=1
  ·rw [if_pos k1] at h;rcases h with ⟨_,rfl,_⟩|⟨_,⟨_,rfl,_⟩|⟨_,rfl,_⟩⟩
   ·exact .ref 12 0 (by omega) (by omega) (by omega) (by omega) (by omega)
   ·exact .done 0 (by omega) (by omega)
   ·exact .ref 5 0 (by omega) (by omega) (by omega) (by omega) (by omega)
  rw [if_neg k1] at h;by_cases k2:c.kind=2
  ·rw [if_pos k2] at h;exact h.1.tells (by omega) (by omega)
  rw [if_neg k2] at h;by_cases k3:c.kind=3
  ·rw [if_pos k3] at h;rcases h.1 with ⟨_,rfl,_⟩|⟨o,_,⟨_,rfl,_⟩|⟨_,rfl,_⟩⟩
   ·exact .ref 12 0 (by omega) (by omega) (by omega) (by omega) (by omega)
   ·exact .ref 7 0 (by omega) (by omega) (by omega) (by omega) (by omega)
   ·exact .done 0 (by omega) (by omega)
  rw [if_neg k3] at h;by_cases k4:c.kind=4
  ·rw [if_pos k4] at h;rcases h.1 with ⟨_,rfl⟩|⟨o,ho,⟨_,rfl⟩|⟨r,hr,rfl⟩⟩
   ·exact .ref 12 0 (by omega) (by omega) (by omega) (by omega) (by omega)
   ·exact .ref 7 0 (by omega) (by omega) (by omega) (by omega) (by omega)
   ·exact .got r ((hg.seen (findP_some ho).1 hr).okc hg.dim)
  rw [if_neg k4] at h;by_cases k5:c.kind=5
  ·rw [if_pos k5] at h;have hn:=mk.2 (.inl k5);rcases h.1 with ⟨_,rfl⟩|⟨o,ho,L,hL,rfl⟩
   ·exact .ref 12 0 (by omega) (by omega) (by omega) (by omega) (by omega)
   ·exact .items _ (by rw [List.length_take];omega) fun x hx=>(hg.listed (findP_some ho).1 hL x (List.mem_filter.1 (List.mem_of_mem_take hx)).1).okc hg.dim
  rw [if_neg k5] at h;by_cases k6:c.kind=6
  ·rw [if_pos k6] at h;rw [hrq] at k6 h mk;exact h.1.tells hg (readQ_q hb k6) (mk.2 (.inr (.inl k6)))
  rw [if_neg k6] at h;by_cases k7:c.kind=7
  ·rw [if_pos k7] at h;rcases h.1 with ⟨_,rfl,_⟩|⟨o,_,⟨_,rfl,_⟩|⟨_,rfl,_⟩⟩
   ·exact .ref 12 0 (by omega) (by omega) (by omega) (by omega) (by omega)
   ·exact .ref 11 0 (by omega) (by omega) (by omega) (by omega) (by omega)
   ·exact .done 0 (by omega) (by omega)
  rw [if_neg k7] at h;by_cases k8:c.kind=8
  ·rw [if_pos k8] at h;rcases h.1 with ⟨_,rfl,_⟩|⟨_,rfl,_⟩
   ·exact .ref 12 0 (by omega) (by omega) (by omega) (by omega) (by omega)
   ·exact .done 0 (by omega) (by omega)
  rw [if_neg k8] at h;by_cases k9:c.kind=9
  ·rw [if_pos k9] at h;obtain ⟨rfl,_⟩:=h.1;exact .done 0 (by omega) (by omega)
  rw [if_neg k9] at h;obtain ⟨g1,g2,g3,g4,g5,g6,g7⟩:=quF_gd c;have g8:=quF_six c;by_cases k10:c.kind=10
  ·rw [if_pos k10] at h;rcases h.1 with ⟨hz,rfl,_⟩|⟨_,hp⟩
   ·exact .ref _ _ (by omega) (by omega) g8 g6 g7
   ·exact hp.tells g2 g3
  rw [if_neg k10] at h;rcases h.1 with ⟨hz,rfl⟩|⟨_,hp⟩
  ·exact .ref _ _ (by omega) (by omega) g8 g6 g7
  ·exact hp.tells hg g1 (mk.2 (.inr (.inr (by omega))))
end
theorem TellB.by_{zs:List Int}(h:TellB zs):IsBy zs∧zs.length≤1000000:=by
 cases h with
 | done m h0 h1=>exact ⟨by intro x hx;simp at hx;omega,by simp⟩
 | ref e pl e0 e1 e6 p0 p1=>
  unfold refB;exact ⟨((IsBy.one (by omega) (by omega)).append (IsBy.one (by omega) (by omega))).append (leB_by _ _),by simp [leB_len]⟩
 | got c h=>
  unfold gotB;have:=itemB_len h;exact ⟨(IsBy.one (by omega) (by omega)).append (itemB_by h.2.2.2.2.2.2),by simp;omega⟩
 | items L h50 h=>
  unfold itemsB;have h1:∀ c∈L,(textB (itemB c)).length≤17504:=fun c hc=>by have h2:=itemB_len (h c hc);have h3:=uvB_len 3 (itemB c).length (by omega) (by omega);unfold textB;rw [List.length_append];omega
  have h2:=fm_len_le 17504 (fun c=>textB (itemB c)) h1;have h3:=uvB_len 1 L.length (by omega) (by omega);refine ⟨((IsBy.one (by omega) (by omega)).append (uvB_by _)).append fun x hx=>?_,by simp only [List.length_append,List.length_singleton];omega⟩;obtain ⟨c,hc,hx⟩:=List.mem_flatMap.1 hx;exact textB_by (itemB_by (h c hc).2.2.2.2.2.2) x hx
 | hits hs h50 h=>
  unfold hitsB;have h2:=fm_len_le 16 (fun x:Int×Int=>leB x.1 8++leB x.2 8) (l:=hs) (fun x _=>by simp [leB_len]);have h3:=uvB_len 1 hs.length (by omega) (by omega);refine ⟨((IsBy.one (by omega) (by omega)).append (uvB_by _)).append fun x hx=>?_,by simp only [List.length_append,List.length_singleton];omega⟩;obtain ⟨c,hc,hx⟩:=List.mem_flatMap.1 hx;exact ((leB_by _ _).append (leB_by _ _)) x hx
theorem TellB.inv{xs:List Int}(h:TellB xs):(∃ m,0≤m∧m≤7∧xs=[1]++[m])∨(∃ e pl,1≤e∧e≤255∧0≤pl∧pl<4096∧xs=[2]++[e]++leB pl 2)∨(∃ c,okC c∧xs=[3]++itemB c)∨(∃ L:List Rc,L.length≤50∧(∀ c∈L,okC c)∧xs=[4]++uvB L.length++L.flatMap itB)∨∃ hs:List (Int×Int),hs.length≤50∧(∀ x∈hs,okH x)∧xs=[5]++uvB hs.length++hs.flatMap htB:=by
 cases h with
 | done m h0 h1=>exact .inl ⟨m,h0,h1,rfl⟩
 | ref e pl e0 e1 e6 p0 p1=>exact .inr (.inl ⟨e,pl,e0,e1,p0,p1,rfl⟩)
 | got c h=>exact .inr (.inr (.inl ⟨c,h,rfl⟩))
 | items L h50 h=>exact .inr (.inr (.inr (.inl ⟨L,h50,h,rfl⟩)))
 | hits hs h50 h=>exact .inr (.inr (.inr (.inr ⟨hs,h50,h,rfl⟩)))
theorem TellB.ne{xs:List Int}(h:TellB xs):1≤xs.length:=by rcases h.inv with ⟨_,_,_,rfl⟩|⟨_,_,_,_,_,_,rfl⟩|⟨_,_,rfl⟩|⟨_,_,_,rfl⟩|⟨_,_,_,rfl⟩<;>simp<;>omega
def KdEr(xs:List Int)(kd er:Int):Prop:=(kd=2∧∃ p,xs=refB er p)∨(kd≠2∧∀ e p,xs≠refB e p)
theorem KdEr.other{xs:List Int}{kd er:Int}(h:kd≠2)(k:xs.head?≠some 2):KdEr xs kd er:=.inr ⟨h,fun e p he=>k (by rw [he];rfl)⟩
end Go.Proofs.YtcgmgdjeamidlaaGreat
