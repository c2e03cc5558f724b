/- Texts of one proof, joined. -/
import Derived.Test.YtcgmgdjeamidlaaGreatMg24
import Derived.Deep.SlicePairs
import Derived.Laws.OwnMore
import Derived.WalkSmall
namespace Go.Proofs.YtcgmgdjeamidlaaGreat.vc
set_option maxRecDepth 100000
set_option maxHeartbeats 16000000
open Go.RowKit Go.ChangeShapes Go.WideShapes Go.ChangeAt Go.Deep
def firstF(xs:List (Int×Int))(k:Int):List (Int×Int):=(sortH xs).take (askN xs.length k)
theorem firstF_len(xs:List (Int×Int))(k:Int):(firstF xs k).length=askN xs.length k:=by rw [firstF,List.length_take,sortH_length];unfold askN;omega
theorem first_any(n:Nat)(xs:List (Int×Int))(w:World)(a:Option Addr)(c:Nat)(k:Int)(k1 : -9223372036854775808≤k)(k2:k≤9223372036854775807)
  (l:xs.length=n) (i:SrcOf w (.slice a n c) n 2 (hc xs)) (hb:n * 16≤140737488355328) :
  Calls Tryz.prog 244 #[.slice a n c,.int .i64 k] w fun e w'=>∃ v,e=.returned v∧w'.ownsRow w.heap.size 118 2 v (askN n k) (hc (firstF xs k))∧Below w.heap.size w w':=by
 have H:=Lib.hid (merge_any n 0 xs [] w a none c 0 k k1 k2 l rfl i (.inl ⟨rfl,rfl,rfl⟩) (by omega));have L:=Lib.hid l;clear i l;go_enter Tryz.func244,Tryz.ntmps244;go_wp2_with fail;refine H.out.mono ?_;rintro e w1 ⟨v,rfl,hown,hb1⟩;have O:=Lib.hid hown;have B:=Lib.hid hb1;clear hown hb1;go_wp2_with fail;go_ret;exact ⟨v,rfl,by have o:=O.out;rw [List.append_nil,Nat.add_zero] at o;rw [firstF,L.out];exact o,B.out⟩
theorem src_of_own{w:World}{base:Nat}{e:TypeId}{v:Value}{n:Nat}{news:List Value}(h:w.ownsRow base e 2 v n news):SrcOf w v n 2 news:=by
 rcases h.2 with ⟨rfl,h0⟩|⟨g,cap,cur,rfl,_⟩
 ·have hl:=h.1;rw [h0] at hl;exact .inl ⟨rfl,h0,List.length_eq_zero_iff.1 (by omega)⟩
 ·refine .inr ⟨_,cap,rfl,h.1,fun j u hj=>?_⟩;have hlt:j<n * 2:=by rw [←h.1];exact (List.getElem?_eq_some_iff.1 hj).1
  have:=h.cellAt j hlt;rw [add_plain,Nat.zero_add,this,hj]
theorem own_shape{w:World}{base:Nat}{e:TypeId}{v:Value}{n:Nat}{news:List Value}(h:w.ownsRow base e 2 v n news):∃ p c,v=.slice p n c∧n≤c∧c≤9223372036854775807:=by
 rcases h.2 with ⟨rfl,rfl⟩|⟨g,cap,cur,rfl,_,_,hc,hm,_⟩
 ·exact ⟨none,0,rfl,Nat.le_refl _,by omega⟩
 ·exact ⟨_,cap,rfl,hc,by unfold maxLen at hm;omega⟩
def HitsIn(w:World)(a:Option Addr)(n c:Nat)(xs:List (Int×Int)):Prop:=
 xs.length=n∧n≤c∧c≤9223372036854775807∧SrcOf w (.slice a n c) n 2 (hc xs)∧HitsAt w (.slice a n c) xs
theorem hc_at(xs:List (Int×Int))(i:Nat)(hi:i<xs.length):(hc xs)[2 * i]? = some (.int .u64 (xs[i]?.getD (0,0)).1)∧(hc xs)[2 * i+1]? = some (.int .i64 (xs[i]?.getD (0,0)).2):=by have hg:=hc_get (List.getElem?_eq_getElem hi);rw [List.getElem?_eq_getElem hi];exact hg
theorem hits_in_src{w:World}{b off n c:Nat}{xs:List (Int×Int)}(hl:xs.length=n)
  (h:∀ i,i<xs.length→w.cell? ⟨b,off+i * 2,none⟩=some (.int .u64 (xs[i]?.getD (0,0)).1)∧w.cell? ⟨b,off+i * 2+1,none⟩=some (.int .i64 (xs[i]?.getD (0,0)).2)) :
  SrcOf w (.slice (some ⟨b,off,none⟩) n c) n 2 (hc xs):=by
 refine .inr ⟨_,c,rfl,by rw [hc_len,hl],fun j u hj=>?_⟩;have hlt:j<xs.length * 2:=by rw [←hc_len];exact (List.getElem?_eq_some_iff.1 hj).1
 rw [add_plain];rcases Nat.mod_two_eq_zero_or_one j with hm|hm
 ·have e:j=2 * (j / 2):=by omega
  have:=hc_at xs (j / 2) (by omega);rw [←e] at this;rw [this.1] at hj;have hc:=(h (j / 2) (by omega)).1;rw [show off+j / 2 * 2=off+j by omega] at hc;rw [hc,←hj]
 ·have e:j=2 * (j / 2)+1:=by omega
  have:=hc_at xs (j / 2) (by omega);rw [←e] at this;rw [this.2] at hj;have hc:=(h (j / 2) (by omega)).2;rw [show off+j / 2 * 2+1=off+j by omega] at hc;rw [hc,←hj]
theorem hits_in{H:Type}{enc:TypeId×Value→H}{w:World}{a:Option Addr}{n c fuel:Nat}{x:DataW H×List MemPlace}
  (h:DataW.trod enc Tryz.prog w 0 (fun _=>true) true fuel 39 [.slice a n c]=some x):∃ xs,HitsIn w a n c xs:=by
 rcases open_slice_pairs Tryz.underlying39 Tryz.underlying118 (by kernel_rfl) rfl rfl (by kernel_rfl) (by kernel_rfl) h with ⟨hcs,_⟩|⟨ad,len,cap,m,k,V0,V1,D0,D1,P0,P1,hcs,_,hl,hm,hmm,_,hx⟩
 ·simp at hcs;obtain ⟨rfl,rfl,rfl⟩:=hcs;exact ⟨[],rfl,by omega,by omega,.inl ⟨rfl,rfl,rfl⟩,.inl ⟨rfl,_,_,rfl⟩⟩
 ·simp at hcs;obtain ⟨rfl,rfl,rfl⟩:=hcs;simp only [if_true] at hmm;subst hmm;unfold maxLen at hm;have hv:∀ i,i<m→∃ q:Int×Int,w.cell? (ad.add (i * 2))=some (.int .u64 q.1)∧w.cell? (ad.add (i * 2+1))=some (.int .i64 q.2):=by intro i hi;obtain ⟨h1,h2,h3,h4⟩:=hx i hi;obtain ⟨p,e0,_,_⟩:=DataW.trod_int Tryz.underlying34 h3;obtain ⟨q,e1,_,_⟩:=DataW.trod_int Tryz.underlying2 h4;simp at e0 e1;exact ⟨(p,q),by rw [h1,e0],by rw [h2,e1]⟩
  obtain ⟨f,hf⟩:=choose_lt hv;obtain ⟨b,off,path⟩:=ad;by_cases h0:n=0
  ·subst h0;refine ⟨[],rfl,by omega,by omega,.inr ⟨_,m,rfl,rfl,fun j u hj=>by simp [hc] at hj⟩,.inl ⟨rfl,_,_,rfl⟩⟩
  ·have hp:path=none:=by
    have:=(hf 0 (by omega)).1;cases path with
    | none=>rfl
    | some y=>
     simp [World.cell?,Addr.add] at this;split at this<;>simp at this
   subst hp;have hall:∀ i,i<((List.range n).map f).length→w.cell? ⟨b,off+i * 2,none⟩=some (.int .u64 (((List.range n).map f)[i]?.getD (0,0)).1)∧w.cell? ⟨b,off+i * 2+1,none⟩=some (.int .i64 (((List.range n).map f)[i]?.getD (0,0)).2):=by
    intro i hi;have hi':i<n:=by simpa using hi
    have h:=hf i (by omega);rw [add_plain,add_plain] at h;simp [hi'];exact h
   exact ⟨(List.range n).map f,by simp,hl,by omega,hits_in_src (by simp) hall,.inr ⟨b,off,m,by simp,hall⟩⟩
theorem own_keep{w w':World}{base:Nat}{e:TypeId}{size:Nat}{v:Value}{n:Nat}{xs:List Value}(h:w.ownsRow base e size v n xs)(hk:∀ g,v.ownBlock=some g→w'.heap[g]? = w.heap[g]?):w'.ownsRow base e size v n xs:=by
 obtain ⟨h1,h2⟩:=h;refine ⟨h1,?_⟩;rcases h2 with h2|⟨g,cap,cur,rfl,hg,hh,r⟩
 ·exact .inl h2
 ·exact .inr ⟨g,cap,cur,rfl,hg,by rw [hk g rfl];exact hh,r⟩
end Go.Proofs.YtcgmgdjeamidlaaGreat.vc
namespace Go.Proofs.YtcgmgdjeamidlaaGreat.vc
set_option maxRecDepth 100000
set_option maxHeartbeats 16000000
open Go.RowKit Go.ChangeShapes Go.WideShapes Go.ChangeAt Go.Deep
set_option linter.unusedVariables false
end Go.Proofs.YtcgmgdjeamidlaaGreat.vc
