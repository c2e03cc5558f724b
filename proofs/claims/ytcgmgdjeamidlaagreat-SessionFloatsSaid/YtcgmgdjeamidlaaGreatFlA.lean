/- Printed small by mini.py. -/
import Derived.Test.YtcgmgdjeamidlaaGreatRsP
namespace Go.Proofs.YtcgmgdjeamidlaaGreat
set_option maxRecDepth 100000
set_option maxHeartbeats 16000000
open Go.RowKit Go.ChangeShapes Go.WideShapes Go.ChangeAt Go.Proofs.Tryz
set_option linter.unusedVariables false
set_option linter.unusedSimpArgs false
def pfQ(ik sc:Int)(fl tag:List Int):Qc:=⟨10,ik,[],tag,0,0,0,[],fl,sc⟩
def kfQ(n sc:Int)(fl:List Int):Qc:=⟨11,0,[],[],0,0,n,[],fl,sc⟩
def ptQ(ik:Int)(vec tag:List Int):Qc:=⟨2,ik,vec,tag,0,0,0,[],[],0⟩
def knQ(n:Int)(q:List Int):Qc:=⟨6,0,[],[],0,0,n,q,[],0⟩
def rgQ:Qc:=⟨5,0,[],[],0,18446744073709551615,50,[],[],0⟩
def Live(D:PDB)(u:Int):Prop:=D.dim=2∧u≠0∧∃ o,findP u D.op=some o
theorem findP_of{u:Int}{l:List PTx}{o:PTx}(h:o∈l)(hn:o.n=u):∃ o',findP u l=some o':=by
 have h1:(findP u l).isSome=true:=by unfold findP;rw [List.find?_isSome];exact ⟨o,h,by simpa using hn⟩
 exact Option.isSome_iff_exists.1 h1
theorem Live.wrote{D:PDB}{u k:Int}{v:Ver}(h:Live D u):Live (wroteP D u k v) u:=by obtain ⟨h1,h2,o,ho⟩:=h;obtain ⟨m,hn⟩:=findP_some ho;refine ⟨h1,h2,findP_of (o:={ o with wr:=upV k v o.wr }) (List.mem_map.2 ⟨o,m,by rw [if_pos hn]⟩) hn⟩
theorem Live.opened{D:PDB}{a b:Nat}(h:D.dim=2)(h0:0≤D.begun):Live (beginP D a b) (D.begun+1):=
 ⟨h,by omega,findP_of (o:=⟨D.begun+1,D.last,a,b,[]⟩) (by simp [beginP]) rfl⟩
theorem Live.sim{D E:PDB}{u:Int}(h:Live D u)(s:Sim D E):Live E u:=by obtain ⟨h1,h2,o,ho⟩:=h;obtain ⟨o',ho',_⟩:=s.find_some ho;exact ⟨by rw [←s.dim];exact h1,h2,o',ho'⟩
theorem live_hu{D:PDB}{u:Int}(h:Live D u)(k:Int):¬ (u=0∧k≠1∧k≠9):=fun e=>h.2.1 e.1
theorem allG_len{k:Int}{l:List Nat}(h:(allG k l).2.2.2=0):(allG k l).1.length=l.length:=by
 unfold allG at h ⊢;by_cases h1:k < -64∨64<k
 ·rw [if_pos h1] at h;simp at h
 rw [if_neg h1] at h ⊢;by_cases h2:l.length=0∨4096<l.length
 ·rw [if_pos h2] at h;simp at h
 rw [if_neg h2] at h ⊢;cases hb:firstBad k l with
 | none=>rw [hb] at h;simp [valL]
 | some p=>
  rw [hb] at h;simp only at h;exfalso;clear h1 h2;induction l generalizing p with
  | nil=>simp [firstBad] at hb
  | cons x l ih=>
   unfold firstBad at hb;by_cases h0:(quantG x k).2.2=0
   ·rw [if_pos h0] at hb;cases hc:firstBad k l with
    | none=>rw [hc] at hb;cases hb
    | some q=>
     rw [hc] at hb;cases hb;exact ih q h hc
   ·rw [if_neg h0] at hb;cases hb;exact h0 h
theorem allG_wf{k:Int}{l:List Nat}:(∀ x∈(allG k l).1,-2147483648≤x∧x≤2147483647)∧0≤(allG k l).2.2.2∧(allG k l).2.2.2<256∧0≤(allG k l).2.2.1∧(allG k l).2.2.1≤l.length:=by
 unfold allG;by_cases h1:k < -64∨64<k
 ·rw [if_pos h1];simp
 rw [if_neg h1];by_cases h2:l.length=0∨4096<l.length
 ·rw [if_pos h2];simp
 rw [if_neg h2];cases hb:firstBad k l with
 | none=>
  simp only;refine ⟨fun x hx=>?_,by omega,by omega,by omega,by omega⟩;obtain ⟨y,_,rfl⟩:=List.mem_map.1 hx;exact ⟨(quantG_wf y k).1,(quantG_wf y k).2.1⟩
 | some p=>
  simp only;have h:p.1≤l.length∧0≤p.2∧p.2<256:=by
   clear h1 h2;induction l generalizing p with
   | nil=>simp [firstBad] at hb
   | cons x l ih=>
    unfold firstBad at hb;by_cases h0:(quantG x k).2.2=0
    ·rw [if_pos h0] at hb;cases hc:firstBad k l with
     | none=>rw [hc] at hb;cases hb
     | some q=>
      rw [hc] at hb;cases hb;have:=ih q hc;simp only [List.length_cons];exact ⟨by omega,this.2⟩
    ·rw [if_neg h0] at hb;cases hb;have:=quantG_wf x k;exact ⟨by simp,this.2.2.2.2.1,by show (quantG x k).2.2<256;omega⟩
  refine ⟨by simp,h.2.1,h.2.2,by omega,by omega⟩
section
variable {D E D':PDB} {u u':Int} {zs:List Int} {ik sc n:Int} {fl tag:List Int}
theorem pf_ok2(k0:0≤ik)(k1:ik<18446744073709551616)(s0 : -64≤sc)(s1:sc≤64)(f1:fl.length=2)(fr:∀ x∈fl,0≤x∧x<18446744073709551616)(t1:tag.length=1)(tb:IsBy tag):(pfQ ik sc fl tag).Ok:=.putf ik sc fl tag k0 k1 s0 s1 (by omega) fr (by omega) tb
theorem kf_ok2(s0 : -64≤sc)(s1:sc≤64)(f1:fl.length=2)(fr:∀ x∈fl,0≤x∧x<18446744073709551616):(kfQ 9 sc fl).Ok:=.knnf 9 sc fl (by omega) (by omega) s0 s1 (by omega) fr
theorem pt_ok2{vec:List Int}(k0:0≤ik)(k1:ik<18446744073709551616)(f1:vec.length=2)(fr:∀ x∈vec,-2147483648≤x∧x<2147483648)(t1:tag.length=1)(tb:IsBy tag):(ptQ ik vec tag).Ok:=.put ik vec tag k0 k1 (by omega) (by omega) fr (by omega) tb
theorem kn_ok2{vec:List Int}(f1:vec.length=2)(fr:∀ x∈vec,-2147483648≤x∧x<2147483648):(knQ 9 vec).Ok:=.knn 9 vec (by omega) (by omega) (by omega) fr
theorem pf_step2(hc:(pfQ ik sc fl tag).Ok)(L:Live D u)(h:Step D u (pfQ ik sc fl tag).form zs D' u'):PutFS D u (pfQ ik sc fl tag) zs D'∧u'=u:=by have h:=step_of hc (live_hu L _) h;simpa [DoQ,pfQ] using h
theorem kf_step2(hc:(kfQ n sc fl).Ok)(L:Live D u)(h:Step D u (kfQ n sc fl).form zs D' u'):KnnFS D u (kfQ n sc fl) zs∧D'=D∧u'=u:=by have h:=step_of hc (live_hu L _) h;simpa [DoQ,kfQ] using h
theorem pt_step2{vec:List Int}(hc:(ptQ ik vec tag).Ok)(L:Live D u)(h:Step D u (ptQ ik vec tag).form zs D' u'):PutS D u ik vec tag 0 zs D'∧u'=u:=by have h:=step_of hc (live_hu L _) h;simpa [DoQ,ptQ] using h
theorem kn_step2{vec:List Int}(hc:(knQ n vec).Ok)(L:Live D u)(h:Step D u (knQ n vec).form zs D' u'):KnnS D u vec n zs∧D'=D∧u'=u:=by have h:=step_of hc (live_hu L _) h;simpa [DoQ,knQ] using h
theorem putS_live{vec:List Int}{m:Int}(L:Live D u)(hv:vec.length=2)(h:PutS D u ik vec tag m zs D'):zs=[1,m]∧∃ v:Ver,vK v=(0,false,ik,vec,tag)∧D'=wroteP D u ik v:=by
 obtain ⟨h1,h2,o,ho⟩:=L;rcases h with ⟨h3,_⟩|⟨o',_,⟨h3,_⟩|⟨_,h3,h4⟩⟩
 ·rw [ho] at h3;cases h3
 ·rw [h1] at h3;omega
 ·exact ⟨h3,h4⟩
end
structure FlR(D E:PDB)(u:Int)(ik sc:Int)(fl tag:List Int)(za zh:List Int)(D2:PDB)(u2:Int):Prop where
 uu:u2=u
 bad:(allG sc (fl.map Int.toNat)).2.2.2≠0→za=refB (allG sc (fl.map Int.toNat)).2.2.2 (allG sc (fl.map Int.toNat)).2.2.1∧zh=za∧D2=D
 good:(allG sc (fl.map Int.toNat)).2.2.2=0→za=[1,(allG sc (fl.map Int.toNat)).2.1]∧Live D2 u∧∀ zb E1 v1 zk E2 v2,Step E u (ptQ ik (allG sc (fl.map Int.toNat)).1 tag).form zb E1 v1→Step E1 v1 (knQ 9 (allG sc (fl.map Int.toNat)).1).form zk E2 v2→zb=[1,0]∧zh=zk∧v2=u∧Sim D2 E2
theorem fl_round{D E D1 D2:PDB}{u u1 u2:Int}{za zh:List Int}{ik sc:Int}{fl tag:List Int}(hs:Sim D E)(L:Live D u)(k0:0≤ik)(k1:ik<18446744073709551616)(s0 : -64≤sc)(s1:sc≤64)(f1:fl.length=2)(fr:∀ x∈fl,0≤x∧x<18446744073709551616)(t1:tag.length=1)(tb:IsBy tag)
  (h1:Step D u (pfQ ik sc fl tag).form za D1 u1) (h2:Step D1 u1 (kfQ 9 sc fl).form zh D2 u2):FlR D E u ik sc fl tag za zh D2 u2:=by
 obtain ⟨q1,rfl⟩:=pf_step2 (pf_ok2 k0 k1 s0 s1 f1 fr t1 tb) L h1;clear h1;have L1:Live D1 u1:=by
  rcases q1 with ⟨_,_,rfl⟩|⟨e,h⟩
  ·exact L
  ·obtain ⟨_,v,_,rfl⟩:=putS_live L (by rw [show quF (pfQ ik sc fl tag)=allG sc (fl.map Int.toNat) from rfl] at e ⊢;rw [allG_len e,List.length_map,f1]) h;exact L.wrote
 obtain ⟨q2,rfl,rfl⟩:=kf_step2 (kf_ok2 s0 s1 f1 fr) L1 h2;clear h2;unfold PutFS at q1;unfold KnnFS at q2;rw [show quF (pfQ ik sc fl tag)=allG sc (fl.map Int.toNat) from rfl] at q1;rw [show quF (kfQ 9 sc fl)=allG sc (fl.map Int.toNat) from rfl] at q2;refine ⟨rfl,fun e=>?_,fun e=>?_⟩
 ·rcases q1 with ⟨_,p1,rfl⟩|⟨p1,_⟩
  ·rcases q2 with ⟨_,p2⟩|⟨p2,_⟩
   ·exact ⟨p1,by rw [p1,p2],rfl⟩
   ·exact absurd p2 e
  ·exact absurd p1 e
 ·have hl:(allG sc (fl.map Int.toNat)).1.length=2:=by rw [allG_len e,List.length_map,f1]
  have hr:∀ x∈(allG sc (fl.map Int.toNat)).1,-2147483648≤x∧x<2147483648:=fun x hx=>by have:=allG_wf.1 x hx;omega
  rcases q1 with ⟨p1,_⟩|⟨_,p1⟩
  ·exact absurd e p1
  rcases q2 with ⟨p2,_⟩|⟨_,p2⟩
  ·exact absurd e p2
  obtain ⟨a1,v,a2,rfl⟩:=putS_live L hl p1;refine ⟨a1,L1,fun zb E1 v1 zk E2 v2 h3 h4=>?_⟩;have LE:=L.sim hs;obtain ⟨p3,rfl⟩:=pt_step2 (pt_ok2 k0 k1 hl hr t1 tb) LE h3;obtain ⟨b1,v',b2,rfl⟩:=putS_live LE hl p3;clear h3;have S1:Sim (wroteP D v1 ik v) (wroteP E v1 ik v'):=hs.wrote v1 ik (a2.trans b2.symm);obtain ⟨p4,rfl,rfl⟩:=kn_step2 (kn_ok2 hl hr) (L1.sim S1) h4;exact ⟨b1,p2.same S1 p4,rfl,S1⟩
theorem rg_same{D E D1 E1:PDB}{u u1 u2:Int}{zs ys:List Int}(hs:Sim D E)(h1:Step D u rgQ.form zs D1 u1)(h2:Step E u rgQ.form ys E1 u2):zs=ys:=(h1.same hs h2).1
theorem bg_step2{D D':PDB}{zs:List Int}{u':Int}(h:Step D 0 (Qc.bare 1).form zs D' u')(h1:D=newP 2):u'=1∧∃ a b,D'=beginP (newP 2) a b:=by subst h1;obtain ⟨_,h2,h3⟩:=bgn_step h (by simp [newP]);exact ⟨h2,h3⟩
end Go.Proofs.YtcgmgdjeamidlaaGreat
