/- Printed small by mini.py. -/
import Derived.Test.YtcgmgdjeamidlaaGreatMg38
import Derived.Test.YtcgmgdjeamidlaaGreatRsM
namespace Go.Proofs.YtcgmgdjeamidlaaGreat
set_option maxRecDepth 100000
set_option maxHeartbeats 16000000
open Go.RowKit Go.ChangeShapes Go.WideShapes Go.ChangeAt Go.Proofs.Tryz
set_option linter.unusedVariables false
set_option linter.unusedSimpArgs false
inductive Qc.Ok:Qc→Prop
 | bare (k:Int) (h:k=1∨k=7∨k=8∨k=9):Qc.Ok (Qc.bare k)
 | put (ik:Int) (vec tag:List Int) (k0:0≤ik) (k1:ik<18446744073709551616) (v0:0<vec.length) (v1:vec.length≤4096) (vr:∀ x∈vec,-2147483648≤x∧x<2147483648) (t1:tag.length≤1024) (tb:IsBy tag):Qc.Ok { Qc.bare 2 with ik:=ik,vec:=vec,tag:=tag }
 | key (k key:Int) (h:k=3∨k=4) (k0:0≤key) (k1:key<18446744073709551616):Qc.Ok { Qc.bare k with key:=key }
 | range (key hi n:Int) (k0:0≤key) (k1:key<18446744073709551616) (h0:0≤hi) (h1:hi<18446744073709551616) (n0:0≤n) (n1:n≤50):Qc.Ok { Qc.bare 5 with key:=key,hi:=hi,n:=n }
 | knn (n:Int) (q:List Int) (n0:0≤n) (n1:n≤50) (q1:q.length≤4096) (qr:∀ x∈q,-2147483648≤x∧x<2147483648):Qc.Ok { Qc.bare 6 with n:=n,q:=q }
 | putf (ik sc:Int) (fl tag:List Int) (k0:0≤ik) (k1:ik<18446744073709551616) (s0 : -64≤sc) (s1:sc≤64) (f1:fl.length≤4096) (fr:∀ x∈fl,0≤x∧x<18446744073709551616) (t1:tag.length≤1024) (tb:IsBy tag):Qc.Ok { Qc.bare 10 with ik:=ik,sc:=sc,fl:=fl,tag:=tag }
 | knnf (n sc:Int) (fl:List Int) (n0:0≤n) (n1:n≤50) (s0 : -64≤sc) (s1:sc≤64) (f1:fl.length≤4096) (fr:∀ x∈fl,0≤x∧x<18446744073709551616):Qc.Ok { Qc.bare 11 with n:=n,sc:=sc,fl:=fl }
theorem lst8_form(l rest:List Int)(hl:l.length≤4096)(hr:∀ x∈l,0≤x∧x<18446744073709551616):lstF 8 (uvB l.length++(flsB l++rest)) 0=(l,rest,0):=by
 have h:=lstF_form 8 (fun v=>leB v 8) (fun x=>x) l rest (fun x=>leB_len _ _) hl fun x hx=>leV_leB 8 _ (hr x hx).1 (by have:=(hr x hx).2;omega)
 rwa [List.map_id'] at h
theorem i8_mod(s:Int)(h0 : -64≤s)(h1:s≤64):i8 (s % 256)=s:=by unfold i8;split<;>omega
theorem read_form{c:Qc}(h:c.Ok):readQ c.form=c:=by
 cases h with
 | bare k h=>
  have hf:(Qc.bare k).form=[k]:=by unfold Qc.form Qc.bare;simp only;rw [if_neg (by omega),if_neg (by omega),if_neg (by omega),if_neg (by omega),if_neg (by omega),if_neg (by omega)]
  have h1:=fixF_one k (by omega) (by omega) [];rw [List.append_nil] at h1;rw [hf];unfold readQ;rw [h1];simp only;rw [if_neg (by omega),if_neg (by omega),if_neg (by omega),if_neg (by omega),if_neg (by omega),if_neg (by omega)]
 | put ik vec tag k0 k1 v0 v1 vr t1 tb=>
  unfold Qc.form Qc.bare;simp only [if_true];unfold readQ;rw [fixF_one 2 (by omega) (by omega)];simp only [if_true];have hd:List.drop 1 ([(2:Int)]++itemB (ik,vec,tag))=itemB (ik,vec,tag):=rfl;rw [hd,rdItem_form ik vec tag k0 k1 v0 v1 vr t1];rfl
 | key k key h k0 k1=>
  unfold Qc.form Qc.bare;simp only;rw [if_neg (by omega),if_pos h];unfold readQ;have h1:=fixF_le 8 key k0 (by omega) [];rw [List.append_nil] at h1;rw [fixF_one k (by omega) (by omega)];simp only;rw [if_neg (by omega),if_pos h,h1];rfl
 | range key hi n k0 k1 h0 h1 n0 n1=>
  unfold Qc.form Qc.bare;simp only;rw [if_neg (by omega),if_neg (by omega),if_pos trivial];unfold readQ;have h2:=fixF_one n n0 (by omega) [];rw [List.append_nil] at h2;simp only [List.append_assoc];rw [fixF_one 5 (by omega) (by omega)];simp only;rw [if_neg (by omega),if_neg (by omega),if_pos trivial,fixF_le 8 key k0 (by omega)];simp only;rw [fixF_le 8 hi h0 (by omega)];simp only;rw [h2];rfl
 | knn n q n0 n1 q1 qr=>
  unfold Qc.form Qc.bare;simp only;rw [if_neg (by omega),if_neg (by omega),if_neg (by omega),if_pos trivial];unfold readQ;have h2:=lst4_form q [] q1 qr;rw [List.append_nil] at h2;simp only [List.append_assoc];rw [fixF_one 6 (by omega) (by omega)];simp only;rw [if_neg (by omega),if_neg (by omega),if_neg (by omega),if_pos trivial,fixF_one n n0 (by omega)];simp only;rw [h2];simp only;rw [map_i32 q qr];rfl
 | putf ik sc fl tag k0 k1 s0 s1 f1 fr t1 tb=>
  unfold Qc.form Qc.bare;simp only;rw [if_neg (by omega),if_neg (by omega),if_neg (by omega),if_neg (by omega),if_pos trivial];unfold readQ;have h2:=txtF_text 1024 tag [] t1 (by omega);rw [List.append_nil] at h2;simp only [List.append_assoc];rw [fixF_one 10 (by omega) (by omega)];simp only;rw [if_neg (by omega),if_neg (by omega),if_neg (by omega),if_neg (by omega),if_pos trivial,fixF_le 8 ik k0 (by omega)];simp only;rw [fixF_one (sc % 256) (by omega) (by omega)];simp only;rw [lst8_form fl _ f1 fr];simp only;rw [h2,i8_mod sc s0 s1];rfl
 | knnf n sc fl n0 n1 s0 s1 f1 fr=>
  unfold Qc.form Qc.bare;simp only;rw [if_neg (by omega),if_neg (by omega),if_neg (by omega),if_neg (by omega),if_neg (by omega),if_pos trivial];unfold readQ;have h2:=lst8_form fl [] f1 fr;rw [List.append_nil] at h2;simp only [List.append_assoc];rw [fixF_one 11 (by omega) (by omega)];simp only;rw [if_neg (by omega),if_neg (by omega),if_neg (by omega),if_neg (by omega),if_neg (by omega),if_pos trivial,fixF_one n n0 (by omega)];simp only;rw [fixF_one (sc % 256) (by omega) (by omega)];simp only;rw [h2,i8_mod sc s0 s1];rfl
theorem may_ok{c:Qc}(h:c.Ok):c.may=true:=by
 cases h with
 | bare k h=>unfold Qc.may Qc.bare;simp only;rw [if_neg (by omega),if_neg (by omega),if_neg (by omega),if_neg (by omega),if_neg (by omega)];exact Γ h
 | put ik vec tag k0 k1 v0 v1 vr t1 tb=>unfold Qc.may Qc.bare;simp only [if_true];exact Γ v0
 | key k key h k0 k1=>unfold Qc.may Qc.bare;simp only;rw [if_neg (by omega),if_pos h]
 | range key hi n k0 k1 h0 h1 n0 n1=>unfold Qc.may Qc.bare;simp;omega
 | knn n q n0 n1 q1 qr=>unfold Qc.may Qc.bare;simp;omega
 | putf ik sc fl tag k0 k1 s0 s1 f1 fr t1 tb=>unfold Qc.may Qc.bare;simp;omega
 | knnf n sc fl n0 n1 s0 s1 f1 fr=>unfold Qc.may Qc.bare;simp;omega
theorem askQ_form{c:Qc}(h:c.Ok):askQ c.form=some c:=by unfold askQ;rw [read_form h,if_pos ⟨may_ok h,rfl⟩]
theorem step_of{D D':PDB}{u u':Int}{c:Qc}{zs:List Int}(hc:c.Ok)(hu:¬ (u=0∧c.kind≠1∧c.kind≠9))(h:Step D u c.form zs D' u'):DoQ D u c zs D' u':=by unfold Step at h;rw [askQ_form hc] at h;simp only at h;rw [if_neg hu] at h;exact h
theorem bgn_step{D D':PDB}{zs:List Int}{u':Int}(h:Step D 0 (Qc.bare 1).form zs D' u')(h1:D.op.length<8):zs=[1,0]∧u'=D.begun+1∧∃ a b,D'=beginP D a b:=by
 have h:=step_of (.bare 1 (.inl rfl)) (by simp [Qc.bare]) h;unfold DoQ at h;rw [if_pos (show (Qc.bare 1).kind=1 from rfl)] at h;rcases h with ⟨h2,_⟩|⟨_,⟨_,h3,h4,h5⟩|⟨h2,_⟩⟩
 ·exact absurd rfl h2
 ·exact ⟨h3,h4,h5⟩
 ·exact absurd h1 h2
def pfC:Qc:=⟨10,1,[],[],0,0,0,[],[4612811918334230528],0⟩
def gtC:Qc:=⟨4,0,[],[],1,0,0,[],[],0⟩
theorem pf_ok:pfC.Ok:=.putf 1 0 [4612811918334230528] [] (by omega) (by omega) (by omega) (by omega) (by simp) (by simp) (by simp) IsBy.nil
theorem gt_ok:gtC.Ok:=.key 4 1 (.inr rfl) (by omega) (by omega)
theorem pf_all:quF pfC=([2],1,0,0):=by decide +kernel
theorem pf_step{D':PDB}{zs:List Int}{u':Int}{a b:Nat}(h0:Step (beginP (newP 1) a b) 1 pfC.form zs D' u'):zs=[1,1]∧u'=1∧∃ v:Ver,vK v=(0,false,1,[2],[])∧D'=wroteP (beginP (newP 1) a b) 1 1 v:=by
 have h:=step_of pf_ok (by simp) h0;clear h0;unfold DoQ at h;simp only [pfC] at h;simp only [show ¬ ((10:Int)=1) by omega,show ¬ ((10:Int)=2) by omega,show ¬ ((10:Int)=3) by omega,show ¬ ((10:Int)=4) by omega,show ¬ ((10:Int)=5) by omega,show ¬ ((10:Int)=6) by omega,show ¬ ((10:Int)=7) by omega,show ¬ ((10:Int)=8) by omega,show ¬ ((10:Int)=9) by omega,if_false,if_true] at h;obtain ⟨h,rfl⟩:=h;have e:=pf_all;unfold pfC at e;unfold PutFS at h;rw [e] at h;rcases h with ⟨h1,_⟩|⟨_,h⟩
 ·exact absurd rfl h1
 ·rcases h with ⟨h1,_⟩|⟨o,h1,⟨h2,_⟩|⟨_,h3,h4⟩⟩
  ·simp [findP,beginP,newP] at h1
  ·exact absurd rfl h2
  ·exact ⟨h3,rfl,h4⟩
theorem gt_step{D':PDB}{zs:List Int}{u':Int}{a b:Nat}{v:Ver}(hv:vK v=(0,false,1,[2],[]))(h0:Step (wroteP (beginP (newP 1) a b) 1 1 v) 1 gtC.form zs D' u'):zs=[3]++itemB (1,[2],[]):=by
 have h:=step_of gt_ok (by simp) h0;clear h0;unfold DoQ at h;simp only [gtC] at h;simp only [show ¬ ((4:Int)=1) by omega,show ¬ ((4:Int)=2) by omega,show ¬ ((4:Int)=3) by omega,if_false,if_true] at h;obtain ⟨h,_⟩:=h;unfold vK at hv;simp only [Prod.mk.injEq] at hv;obtain ⟨_,v2,v3,v4,v5⟩:=hv;rcases h with ⟨h1,_⟩|⟨o,h1,h2⟩
 ·simp [findP,beginP,newP,wroteP] at h1
 ·have ho:o=⟨1,0,a,b,upV 1 v []⟩:=by simp [findP,beginP,newP,wroteP] at h1;exact h1.symm
  subst ho;have hs:visC (seesR (wroteP (beginP (newP 1) a b) 1 1 v) ⟨1,0,a,b,upV 1 v []⟩ 1)=some (1,[2],[]):=by simp [seesR,lkV,upV,visC,v2,v3,v4,v5]
  rw [hs] at h2;rcases h2 with ⟨h2,_⟩|⟨c,h2,h3⟩
  ·cases h2
  ·cases h2;exact h3
end Go.Proofs.YtcgmgdjeamidlaaGreat
