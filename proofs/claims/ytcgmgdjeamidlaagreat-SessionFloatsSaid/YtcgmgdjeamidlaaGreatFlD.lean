/- Printed small by mini.py. -/
import Derived.Test.YtcgmgdjeamidlaaGreatRsP
import Derived.Test.YtcgmgdjeamidlaaGreatQfB
import Derived.Test.YtcgmgdjeamidlaaGreatFlA
import Derived.Test.YtcgmgdjeamidlaaGreatFlB
import Derived.Test.YtcgmgdjeamidlaaGreatFlC
namespace Go.Proofs.YtcgmgdjeamidlaaGreat
set_option maxRecDepth 100000
set_option maxHeartbeats 16000000
open Go.RowKit Go.ChangeShapes Go.WideShapes Go.ChangeAt Go.Proofs.Tryz
set_option linter.unusedVariables false
set_option linter.unusedSimpArgs false
def U64(x:Int):Prop:=0≤x∧x<18446744073709551616
theorem lit_rd8(w:World)(x:Int):SlRd .u8 (w.alloc (.cells #[.int .u8 x] 5)) ⟨some ⟨w.heap.size,0,none⟩,1,[x]⟩:=by
 have hr:=Φ w #[.int .u8 x] 5;refine ⟨.inr ⟨w.heap.size,0,1,rfl,fun i hi=>?_⟩,fun _ b hb=>by simp [Sl.bs] at hb;subst hb;simp,fun h=>by simp at h,by simp⟩;rcases i with _|i
 ·exact hr.cell 0
 ·simp at hi
theorem KvZ.sl2{L:Nat}{Z:List Nat}{q:IntKind}{e:TypeId}{w:World}{a:Option Addr}{n c:Nat}{xs:List Int}(h:KvZ L Z q e w (.slice a n c) xs)(hn:xs.length≤1000000):n=xs.length∧SlRd q w ⟨a,c,xs⟩:=by obtain ⟨⟨a2,c2,ys⟩,e1,e2,h3,_⟩:=h.sl hn;unfold Sl.v at e1;simp only [Value.slice.injEq] at e1;simp only at e2;subst e2;obtain ⟨rfl,rfl,rfl⟩:=e1;exact ⟨rfl,h3⟩
section
variable {L:Nat} {Z:List Nat} {w:World} {a b ik m sc:Int} {g:Nat} {vec:List Int} {ra:Option Addr} {rc:Nat}
theorem ask_pf(hx:KvZ L Z .u64 34 w (.slice (some ⟨g,0,none⟩) 2 2) [a,b])(ha:U64 a)(hb:U64 b)(hk:U64 ik)(hm:0≤m∧m<256) :
  Calls prog 16 #[.agg #[.int .i64 10,.int .u64 ik,.slice none 0 0,.slice (some ⟨w.heap.size,0,none⟩) 1 1,.int .u64 0,.int .u64 0,.int .i64 0,.slice none 0 0,.slice (some ⟨g,0,none⟩) 2 2,.int .i64 sc]] (w.alloc (.cells #[.int .u8 m] 5)) (Gives (pfQ ik sc [a,b] [m]).form (w.alloc (.cells #[.int .u8 m] 5))):=by
 obtain ⟨_,h⟩:=hx.sl2 (by simp);exact ask_on' (x:=⟨10,⟨ik,Sl.no,⟨some ⟨w.heap.size,0,none⟩,1,[m]⟩⟩,0,0,0,Sl.no,⟨some ⟨g,0,none⟩,2,[a,b]⟩,sc⟩) ⟨⟨SlRd.no _ _,lit_rd8 w m,IsBy.one hm.1 (by show m<256;omega)⟩,SlRd.no _ _,h.only ((Ω [] w).alloc _) (by simp)⟩ ⟨by simp,⟨hk,by simp,by simp,by simp⟩,by simp [Sl.no],fun z hz=>by
  simp only [List.mem_cons,List.mem_nil_iff,or_false] at hz;rcases hz with rfl|rfl
  ·exact ha
  ·exact hb⟩
theorem ask_kf(hx:KvZ L Z .u64 34 w (.slice (some ⟨g,0,none⟩) 2 2) [a,b])(ha:U64 a)(hb:U64 b) :
  Calls prog 16 #[.agg #[.int .i64 11,.int .u64 0,.slice none 0 0,.slice none 0 0,.int .u64 0,.int .u64 0,.int .i64 9,.slice none 0 0,.slice (some ⟨g,0,none⟩) 2 2,.int .i64 sc]] w (Gives (kfQ 9 sc [a,b]).form w):=by
 obtain ⟨_,h⟩:=hx.sl2 (by simp);exact ask_on' (x:=⟨11,⟨0,Sl.no,Sl.no⟩,0,0,9,Sl.no,⟨some ⟨g,0,none⟩,2,[a,b]⟩,sc⟩) ⟨⟨SlRd.no _ _,SlRd.no _ _,IsBy.nil⟩,SlRd.no _ _,h⟩ ⟨by simp,by simp,by simp [Sl.no],fun z hz=>by
  simp only [List.mem_cons,List.mem_nil_iff,or_false] at hz;rcases hz with rfl|rfl
  ·exact ha
  ·exact hb⟩
theorem ask_pt(hx:KvZ L Z .i32 21 w (.slice ra 2 rc) vec)(hl:vec.length=2)(hk:U64 ik)(hm:0≤m∧m<256) :
  Calls prog 16 #[.agg #[.int .i64 2,.int .u64 ik,.slice ra 2 rc,.slice (some ⟨w.heap.size,0,none⟩) 1 1,.int .u64 0,.int .u64 0,.int .i64 0,.slice none 0 0,.slice none 0 0,.int .i64 0]] (w.alloc (.cells #[.int .u8 m] 5)) (Gives (ptQ ik vec [m]).form (w.alloc (.cells #[.int .u8 m] 5))):=by
 obtain ⟨_,h⟩:=hx.sl2 (by omega);have key:=ask_on' (x:=⟨2,⟨ik,⟨ra,rc,vec⟩,⟨some ⟨w.heap.size,0,none⟩,1,[m]⟩⟩,0,0,0,Sl.no,Sl.no,0⟩) (w:=w.alloc (.cells #[.int .u8 m] 5)) ⟨⟨h.only ((Ω [] w).alloc _) (by simp),lit_rd8 w m,IsBy.one hm.1 (by show m<256;omega)⟩,SlRd.no _ _,SlRd.no _ _⟩ ⟨by simp,⟨hk,by simp,by simp,by simp⟩,by simp [Sl.no,hl],by simp [Sl.no]⟩;unfold Rq.lit at key;simp only [hl] at key;exact key
theorem ask_kn(hx:KvZ L Z .i32 21 w (.slice ra 2 rc) vec)(hl:vec.length=2) :
  Calls prog 16 #[.agg #[.int .i64 6,.int .u64 0,.slice none 0 0,.slice none 0 0,.int .u64 0,.int .u64 0,.int .i64 9,.slice ra 2 rc,.slice none 0 0,.int .i64 0]] w (Gives (knQ 9 vec).form w):=by
 obtain ⟨_,h⟩:=hx.sl2 (by omega);have key:=ask_on' (x:=⟨6,⟨0,Sl.no,Sl.no⟩,0,0,9,⟨ra,rc,vec⟩,Sl.no,0⟩) (w:=w) ⟨⟨SlRd.no _ _,SlRd.no _ _,IsBy.nil⟩,h,SlRd.no _ _⟩ ⟨by simp,by simp,by simp [Sl.no,hl],by simp [Sl.no]⟩;unfold Rq.lit at key;simp only [hl] at key;exact key
theorem ask_rg(w:World):Calls prog 16 #[.agg #[.int .i64 5,.int .u64 0,.slice none 0 0,.slice none 0 0,.int .u64 0,.int .u64 18446744073709551615,.int .i64 50,.slice none 0 0,.slice none 0 0,.int .i64 0]] w (Gives rgQ.form w):=
 ask_on' (x:=⟨5,⟨0,Sl.no,Sl.no⟩,0,18446744073709551615,50,Sl.no,Sl.no,0⟩) ⟨⟨SlRd.no _ _,SlRd.no _ _,IsBy.nil⟩,SlRd.no _ _,SlRd.no _ _⟩ ⟨by simp,by simp,by simp [Sl.no],by simp [Sl.no]⟩
end
section
variable {ik sc m:Int} {fl vec:List Int}
theorem fm_pf(hf:fl.length=2)(hm:0≤m∧m<256):IsBy (pfQ ik sc fl [m]).form∧(pfQ ik sc fl [m]).form.length≤1000000:=by
 have e:(pfQ ik sc fl [m]).form=[10]++leB ik 8++[sc % 256]++(uvB fl.length++flsB fl)++textB [m]:=by simp [Qc.form,pfQ]
 rw [e];refine ⟨((((IsBy.one (by omega) (by omega)).append (leB_by _ _)).append (IsBy.one (by omega) (by omega))).append ((uvB_by _).append (flsB_by _))).append (textB_by (IsBy.one hm.1 hm.2)),?_⟩;unfold textB;simp [leB_len,flsB_len,uvB_small,hf]
theorem fm_kf(hf:fl.length=2):IsBy (kfQ 9 sc fl).form∧(kfQ 9 sc fl).form.length≤1000000:=by
 have e:(kfQ 9 sc fl).form=[11]++[9]++[sc % 256]++(uvB fl.length++flsB fl):=by simp [Qc.form,kfQ]
 rw [e];refine ⟨(((IsBy.one (by omega) (by omega)).append (IsBy.one (by omega) (by omega))).append (IsBy.one (by omega) (by omega))).append ((uvB_by _).append (flsB_by _)),?_⟩;simp [leB_len,flsB_len,uvB_small,hf]
theorem fm_pt(hf:vec.length=2)(hm:0≤m∧m<256):IsBy (ptQ ik vec [m]).form∧(ptQ ik vec [m]).form.length≤1000000:=by
 have e:(ptQ ik vec [m]).form=[2]++itemB (ik,vec,[m]):=by simp [Qc.form,ptQ]
 rw [e];unfold itemB;refine ⟨(IsBy.one (by omega) (by omega)).append ((((leB_by _ _).append (uvB_by _)).append (vecB_by _)).append (textB_by (IsBy.one hm.1 hm.2))),?_⟩;unfold textB;simp [leB_len,vecB_len,uvB_small,hf]
theorem fm_kn(hf:vec.length=2):IsBy (knQ 9 vec).form∧(knQ 9 vec).form.length≤1000000:=by
 have e:(knQ 9 vec).form=[6]++[9]++(uvB vec.length++vecB vec):=by simp [Qc.form,knQ]
 rw [e];refine ⟨((IsBy.one (by omega) (by omega)).append (IsBy.one (by omega) (by omega))).append ((uvB_by _).append (vecB_by _)),?_⟩;simp [leB_len,vecB_len,uvB_small,hf]
theorem fm_rg:IsBy rgQ.form∧rgQ.form.length≤1000000:=by
 have e:rgQ.form=[5]++leB 0 8++leB 18446744073709551615 8++[50]:=by simp [Qc.form,rgQ]
 rw [e];exact ⟨(((IsBy.one (by omega) (by omega)).append (leB_by _ _)).append (leB_by _ _)).append (IsBy.one (by omega) (by omega)),by simp [leB_len]⟩
end
theorem mark_rg{k:Int}{x y:Nat}:0≤(allG k [x,y]).2.1∧(allG k [x,y]).2.1<256:=by
 have key:∀ a b:Int,0≤a→a≤5→0≤b→b≤5→0≤bits .or .i64 (bits .or .i64 0 a) b∧bits .or .i64 (bits .or .i64 0 a) b<256:=by
  intro a b a0 a1 b0 b1;obtain rfl|rfl|rfl|rfl|rfl|rfl:a=0∨a=1∨a=2∨a=3∨a=4∨a=5:=by omega
  all_goals
   obtain rfl|rfl|rfl|rfl|rfl|rfl:b=0∨b=1∨b=2∨b=3∨b=4∨b=5:=by omega
   all_goals decide
 unfold allG;split
 ·simp
 split
 ·simp
 split
 ·simp
 ·have h1:=quantG_wf x k;have h2:=quantG_wf y k;exact key _ _ h1.2.2.1 h1.2.2.2.1 h2.2.2.1 h2.2.2.2.1
theorem two_row1{W0 w1:World}{t1 t2 g1 g2:Nat}{D E:PDB}{u v:Int}{Z1 Z2 Z:List Nat}{L:Nat}{z:Value}{bs:List Int}(h:TwoZ W0 t1 t2 g1 g2 D E u v Z1 Z2 w1)(hz:KvZ L Z .u8 5 w1 z bs)(hb:IsBy bs)(hl:bs.length≤1000000)(ht:t1+1<300000) :
  Calls prog 14 #[.pointer (some ⟨g1,0,none⟩),z] w1 (TzTo1 W0 t1 t2 g1 g2 D E u v Z1 Z2 w1 bs):=by
 obtain ⟨s,rfl,ex,hr,_,hc⟩:=own_sl hz.1 hl;subst ex;exact two_one1 h hr hb hc ht
theorem two_row2{W0 w1:World}{t1 t2 g1 g2:Nat}{D E:PDB}{u v:Int}{Z1 Z2 Z:List Nat}{L:Nat}{z:Value}{bs:List Int}(h:TwoZ W0 t1 t2 g1 g2 D E u v Z1 Z2 w1)(hz:KvZ L Z .u8 5 w1 z bs)(hb:IsBy bs)(hl:bs.length≤1000000)(ht:t2+1<300000) :
  Calls prog 14 #[.pointer (some ⟨g2,0,none⟩),z] w1 (TzTo2 W0 t1 t2 g1 g2 D E u v Z1 Z2 w1 bs):=by
 obtain ⟨s,rfl,ex,hr,_,hc⟩:=own_sl hz.1 hl;subst ex;exact two_one2 h hr hb hc ht
def FlI(W0:World)(g1 g2 i:Nat)(w:World):Prop:=∃ t1 t2 D E u Z1 Z2,TwoZ W0 t1 t2 g1 g2 D E u u Z1 Z2 w∧Sim D E∧Live D u∧t1≤2 * i+1∧t2≤2 * i+1
theorem FlI.bl{W0 w:World}{g1 g2 i:Nat}(h:FlI W0 g1 g2 i w):Below W0.heap.size W0 w:=by obtain ⟨_,_,_,_,_,_,_,h,_⟩:=h;exact h.bl
end Go.Proofs.YtcgmgdjeamidlaaGreat
