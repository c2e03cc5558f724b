/- Printed small by mini.py. -/
import Derived.Test.YtcgmgdjeamidlaaGreatRsN
namespace Go.Proofs.YtcgmgdjeamidlaaGreat
set_option maxRecDepth 100000
set_option maxHeartbeats 16000000
open Go.RowKit Go.ChangeShapes Go.WideShapes Go.ChangeAt Go.Proofs.Tryz
set_option linter.unusedVariables false
set_option linter.unusedSimpArgs false
set_option maxHeartbeats 16000000
theorem ask_on'{x:Rq}{w:World}(hx:x.At w)(hs:x.Small):Calls prog 16 #[.agg x.lit] w (Gives x.c.form w):=by
 have R:=Φ w x.lit tRq;obtain ⟨c0,c1,c2,c3,c4,c5,c6,c7,c8,c9⟩:=R.cs10;have F:=Ξ (rform_on (hx.below ((Δ _ w).alloc (Θ _) (.cells x.lit tRq))) hs);have BK:Hid (∀ e y,Gives x.c.form (w.alloc (.cells x.lit tRq)) e y→Gives x.c.form w e y):=Ξ fun e y h=>by obtain ⟨v,rfl,o,b⟩:=h;exact ⟨v,rfl,own_mono o (by simp),((Δ _ w).alloc (Θ _) _).trans (b.mono (by simp))⟩
 clear R hx hs;unfold Rq.cells Sl.v at F;go_enter func16,ntmps16;go_wp2_with fail;refine F.out.mono ?_;intro e y hg;have G:=Ξ (BK.out e y hg);obtain ⟨v,rfl,_⟩:=hg;go_wp2_with fail;go_ret;exact G.out
structure KnS(w:World)(t p ss:Nat)(D:PDB)(u:Int)(F H:List Nat)(wr:World):Prop where
 cx:Cx t w.heap.size p ss D u F H wr
 bl:Below w.heap.size w wr
 lo:w.heap.size≤ss
def KnV(w:World)(ss:Nat)(F:List Nat)(wr:World)(v:Value)(xs:List Int):Prop:=wr.ownsRow w.heap.size 5 1 v xs.length (xs.map (Value.int .u8))∧∀ b,v.ownBlock=some b→b∉F∧b≠ss
def KnTo(w:World)(t p ss:Nat)(D:PDB)(u:Int)(F:List Nat)(wr:World)(bs:List Int)(e:Ending)(w2:World):Prop:=∃ v zs D' u' F' H',e=.returned v∧Step D u bs zs D' u'∧KnS w (t+1) p ss D' u' F' H' w2∧KnV w ss F' w2 v zs∧∀ v' xs,KnV w ss F wr v' xs→KnV w ss F' w2 v' xs
theorem kn_do{w wr w1:World}{t p ss:Nat}{D:PDB}{u:Int}{F H:List Nat}{bs:List Int}{e:Ending}(h:KnS w t p ss D u F H wr)(hb:IsBy bs)(hl:bs.length≤1000000)(ht:t+1<300000)(hg:Gives bs wr e w1) :
  ∃ v,e=.returned v∧Calls prog 14 #[.pointer (some ⟨ss,0,none⟩),v] w1 (KnTo w t p ss D u F wr bs):=by
 obtain ⟨v,rfl,ho,hbl⟩:=hg;refine ⟨v,rfl,?_⟩;obtain ⟨s,rfl,ex,hr,hb2,hc⟩:=own_sl ho hl;have k:Only [] wr w1:=(Ω [] wr).below hbl;have sw:=h.bl.size;have s1:=k.size;have C1:Cx t w.heap.size p ss D u F H w1:=⟨h.cx.db.only k (by simp),Nat.le_trans h.cx.base s1,h.cx.good,h.cx.lim,h.cx.row.only k (by simp),h.cx.ap⟩;refine (do_on C1 hr (by rw [ex];exact hb) (by first|exact hc|(rw [ex];exact hc)) ht).mono ?_;rintro e w2 ⟨v2,zs,D',u',F',H',rfl,ho2,hst,hcx,hO,kF,kH,hoff⟩;rw [ex] at hst;have s2:=hO.size;have geF:=C1.db.ge;have ltF:=C1.db.lt;have ssl:=C1.row.lt;refine ⟨v2,zs,D',u',F',H',rfl,hst,⟨hcx,(h.bl.trans (k.toBelow sw (by simp))).trans (hO.toBelow (Nat.le_trans sw s1) (fun b hb=>by
  rcases List.mem_cons.1 hb with rfl|hb
  ·exact h.lo
  ·exact geF.1 b hb)),h.lo⟩,⟨own_mono ho2 (Nat.le_trans sw s1),fun b hb=>⟨(hoff b hb).2.1,fun e=>by have:=(hoff b hb).1;omega⟩⟩,fun v' xs hv=>⟨own_keep (own_keep hv.1 fun b hb=>k.block b (hv.1.lt b hb).2 (by simp)) fun b hb=>hO.block b (Nat.lt_of_lt_of_le (hv.1.lt b hb).2 s1) (by simp;exact ⟨(hv.2 b hb).2,(hv.2 b hb).1⟩),fun b hb=>⟨fun hm=>?_,(hv.2 b hb).2⟩⟩⟩
 rcases kF b hm with h9|h9
 ·exact (hv.2 b hb).1 h9
 ·have:=(hv.1.lt b hb).2;omega
end Go.Proofs.YtcgmgdjeamidlaaGreat
