/- Texts of one proof, joined. -/
import Derived.Test.YtcgmgdjeamidlaaGreatMg07
import Derived.Test.YtcgmgdjeamidlaaGreatSsU
import Derived.LoopTactic
import Derived.Deep.CutBlock
import Derived.Deep.RegionHeld3
import Derived.Test.YtcgmgdjeamidlaaGreatRgw
import Derived.Test.YtcgmgdjeamidlaaGreatMg06
namespace Go.Proofs.YtcgmgdjeamidlaaGreat
set_option maxRecDepth 100000
set_option maxHeartbeats 16000000
open Go.RowKit Go.ChangeShapes Go.WideShapes Go.ChangeAt Go.Proofs.Tryz
set_option linter.unusedVariables false
set_option linter.unusedSimpArgs false
abbrev tLn:TypeId:=143
def lnL(ls:List (Nat×Nat×Bool)):List Value:=ls.flatMap fun x=>[.pointer (some ⟨x.1,0,none⟩),.pointer (some ⟨x.2.1,0,none⟩),.bool x.2.2]
structure ResI(g l n:Nat)(base:Value)(w:World)(i:Nat)(wr:World)(ls:List (Nat×Nat×Bool))(cs:Array Value):Prop where
 len:ls.length=i
 size:cs.size=n * 3
 take:cs.toList.take (i * 3)=lnL ls
 rl:Row wr l cs tLn
 rg:Row wr g #[.slice (some ⟨l,0,none⟩) n n,.bool false] tSc
 each:∀ x∈ls,Row wr x.1 #[base,.int .u64 0] tSs∧StrmF wr x.2.1 [] 0 [x.2.1]∧x.2.2=false
 fresh:∀ b∈ls.flatMap (fun x=>[x.1,x.2.1]),w.heap.size≤b
 nd:(ls.flatMap (fun x=>[x.1,x.2.1])).Nodup
 only:Only [g,l] w wr
theorem ResI.push{g l n:Nat}{base:Value}{w:World}{i:Nat}{wr:World}{ls:List (Nat×Nat×Bool)}{cs:Array Value}(h:ResI g l n base w i wr ls cs)(hi:i<n)(hg:g≠l){a b:Nat}{y:World}(hy:Only [] wr y)(ha:wr.heap.size≤a)(hb:wr.heap.size≤b)(hab:a≠b)(ra:Row y a #[base,.int .u64 0] tSs)(rb:StrmF y b [] 0 [b]) :
  ∃ cs',ResI g l n base w (i+1) (((y.setCell ⟨l,i * 3,none⟩ (.pointer (some ⟨a,0,none⟩))).setCell ⟨l,i * 3+1,none⟩ (.pointer (some ⟨b,0,none⟩))).setCell ⟨l,i * 3+2,none⟩ (.bool false)) (ls++[(a,b,false)]) cs':=by
 have hl:=h.rl.lt;have hgl:=h.rg.lt;have ry:=h.rl.only hy (by simp);have k:Only [l] y (((y.setCell ⟨l,i * 3,none⟩ (.pointer (some ⟨a,0,none⟩))).setCell ⟨l,i * 3+1,none⟩ (.pointer (some ⟨b,0,none⟩))).setCell ⟨l,i * 3+2,none⟩ (.bool false)):=(((Ω [l] y).setCell (.inl (by simp)) _).setCell (.inl (by simp)) _).setCell (.inl (by simp)) _;have hsz:=h.size;have hlt:∀ c∈ls.flatMap (fun x=>[x.1,x.2.1]),c<wr.heap.size:=by
  intro c hc;obtain ⟨x,hx,hc⟩:=List.mem_flatMap.1 hc;obtain ⟨h1,h2,_⟩:=h.each x hx;simp at hc;rcases hc with rfl|rfl
  ·exact h1.lt
  ·exact h2.lt _ (by simp)
 refine ⟨_,⟨by rw [List.length_append,h.len];rfl,?_,?_,((ry.set (i * 3) (.pointer (some ⟨a,0,none⟩))).set (i * 3+1) (.pointer (some ⟨b,0,none⟩))).set (i * 3+2) (.bool false),(h.rg.only hy (by simp)).only k (by simp;exact hg),fun x hx=>?_,fun c hc=>?_,?_,?_⟩⟩
 ·simp [hsz]
 ·have ht:=h.take;have e:lnL (ls++[(a,b,false)])=lnL ls++[.pointer (some ⟨a,0,none⟩),.pointer (some ⟨b,0,none⟩),.bool false]:=by simp [lnL]
  rw [e,←ht];refine List.ext_getElem? fun j=>?_;have hll:(cs.toList.take (i * 3)).length=i * 3:=by simp;omega
  rw [List.getElem?_take];by_cases h1:j<i * 3
  ·rw [if_pos (by omega),List.getElem?_append_left (by omega),List.getElem?_take_of_lt h1];simp only [Array.getElem?_toList];rw [Array.getElem?_setIfInBounds_ne (by omega),Array.getElem?_setIfInBounds_ne (by omega),Array.getElem?_setIfInBounds_ne (by omega)]
  ·rw [List.getElem?_append_right (by omega),hll];by_cases h2:j<(i+1) * 3
   ·rw [if_pos h2];simp only [Array.getElem?_toList];obtain h3|h3|h3:j=i * 3∨j=i * 3+1∨j=i * 3+2:=by omega
    ·subst h3;rw [Array.getElem?_setIfInBounds_ne (by omega),Array.getElem?_setIfInBounds_ne (by omega),Array.getElem?_setIfInBounds_self_of_lt (by omega)];simp
    ·subst h3;rw [Array.getElem?_setIfInBounds_ne (by omega),Array.getElem?_setIfInBounds_self_of_lt (by simp;omega),show i * 3+1-i * 3=1 by omega];simp
    ·subst h3;rw [Array.getElem?_setIfInBounds_self_of_lt (by simp;omega),show i * 3+2-i * 3=2 by omega];simp
   ·rw [if_neg h2,List.getElem?_eq_none (by simp;omega)]
 ·rcases List.mem_append.1 hx with hx|hx
  ·obtain ⟨h1,h2,h3⟩:=h.each x hx;have l1:=h1.lt;have l2:=h2.lt x.2.1 (by simp);have n1:x.1≠l:=by intro e;have hm:=h.fresh x.1 (List.mem_flatMap.2 ⟨x,hx,by simp⟩);rw [e] at h1;have hr1:wr.heap[l]? = _:=h.rl;have hr2:wr.heap[l]? = _:=h1;rw [hr1] at hr2;simp at hr2;exact absurd hr2.2 (by decide)
   have n2:x.2.1≠l:=by intro e;obtain ⟨sl,hr2,_⟩:=h2;rw [e] at hr2;have hr1:wr.heap[l]? = _:=h.rl;have hr3:wr.heap[l]? = _:=hr2;rw [hr1] at hr3;simp at hr3;exact absurd hr3.2 (by decide)
   exact ⟨(h1.only hy (by simp)).only k (by simp [n1]),(h2.only hy (by simp)).only k (by simp [n2]),h3⟩
  ·simp at hx;subst hx;exact ⟨ra.only k (by simp;omega),rb.only k (by simp;omega),rfl⟩
 ·rw [List.flatMap_append,List.mem_append] at hc;have:=h.only.size;rcases hc with hc|hc
  ·exact h.fresh c hc
  ·simp at hc;omega
 ·rw [List.flatMap_append,List.nodup_append];refine ⟨h.nd,by simp [hab],fun c hc d hd e=>?_⟩;have:=hlt c hc;simp at hd;omega
 ·exact (h.only.trans hy (by simp)).trans k (by intro j hj;left;simp at hj;simp [hj])
theorem reset_on{w:World}{g l n:Nat}{d:Bool}{tb pb:_}{cs:Array Value}(hs:Row w g #[.slice (some ⟨l,0,none⟩) n n,.bool d] tSc)(hl:Row w l cs tLn)(hc:cs.size=n * 3)(hg:g≠l)(hn:0<n)(hn8:n≤8) :
  Calls prog 34 #[.pointer (some ⟨g,0,none⟩),.iface tb pb] w fun e w'=>e=.returned (.int .i64 0)∧∃ ls cs',ResI g l n (.iface tb pb) w n w' ls cs':=by
 have SN:=Ξ (sessions_on hs);have c0:=hs.c 0 (.slice (some ⟨l,0,none⟩) n n);have c1:=hs.c 1 (.bool d);have f1:=hs.free 1;have HN:=Ξ (Ψ hn hn8);have HG:=Ξ hg;have dn:decide ((n:Int)=0)=false:=Λ (by omega);have dq:((n:Int) == 0)=false:=by simp;omega
 go_enter func34,ntmps34;go_wp2_with fail;refine SN.out.mono ?_;rintro _ w2 ⟨rfl,hw⟩;subst w2;go_wp2_with fail;have I0:Hid (ResI g l n (.iface tb pb) w 0 (w.setCell ⟨g,1,none⟩ (.bool false)) [] cs):=Ξ (by have k:Only [g] w (w.setCell ⟨g,1,none⟩ (.bool false)):=(Ω _ w).setCell (.inl (by simp)) _;exact ⟨rfl,hc,by simp [lnL],hl.only k (by simp;exact fun e=>hg e.symm),by simpa using hs.set 1 (.bool false),by simp,by simp,by simp,k.mono (by intro i hi;left;simp at hi;simp [hi])⟩)
 clear c0 c1 f1 SN hs hl hc hg hn hn8;go_loopw [5,21] (fun u5 u wr=>∃ j:Nat,u=.int .i64 (j:Int)∧Hid (j≤n)∧∃ ls cs',Hid (ResI g l n (.iface tb pb) w j wr ls cs')) (fun _ u _=>n-(intOf u).toNat)
 case atStart=>exact ⟨0,rfl,Ξ (Nat.zero_le _),[],cs,I0⟩
 case round=>
  obtain ⟨j,rfl,HJ,ls,cs',HI⟩:=hrel;rename World=>w3;have ej:IntKind.i64.wrap ((j:Int)+1)=((j+1:Nat):Int):=IntWalk.i64_in _ (by have:=HJ.out;have:=HN.out;omega);by_cases hlt:j<n
  ·have d1:decide ((j:Int)<(n:Int))=true:=Γ (by omega);have d1':decide (j<n)=true:=Γ hlt;have j3:(j:Int)<(n:Int):=(by omega);have cg:=HI.out.rg.c 0 (.slice (some ⟨l,0,none⟩) n n);have LL:Hid (∀ y,Only [] w3 y→∀ k,k<3→(∃ q,y.cell? ⟨l,j * 3+k,none⟩=some q)∧y.frozen? ⟨l,j * 3+k,none⟩=false):=Ξ fun y hy k hk=>by have r:=HI.out.rl.only hy (by simp);refine ⟨⟨_,(r.cell (j * 3+k)).trans (Array.getElem?_eq_getElem (by rw [HI.out.size];omega))⟩,r.free _⟩
   have GO:Hid (∀ y,Only [] w3 y→y.cell? ⟨g,0,none⟩=some (.slice (some ⟨l,0,none⟩) n n)):=Ξ fun y hy=>(HI.out.rg.only hy (by simp)).cell 0;have S1:=Ξ fun y=>sess_new (.iface tb pb) ⟨_,_,rfl⟩ y;have S2:=Ξ fun y=>strm_new y;have HJL:=Ξ hlt;clear hlt;go_upto_block 1 with fail;go_cut [] from 22 to 34 (fun wc=>∃ ls2 cs2,Hid (ResI g l n (.iface tb pb) w (j+1) wc ls2 cs2))
   case first=>
    go_upto_region 7 with fail;have g0:=GO.out w3.drew (Ω _ w3).drew;go_region_with
     (first
      | ((with_reducible refine (S1.out w3.drew).mono ?_);rintro _ w4 ⟨rfl,h4⟩;have X1:Hid (Only [] w3 w4):=Ξ (by rw [h4];exact ((Ω _ w3).drew).alloc _);have R1:Hid (Row w4 w3.heap.size #[.iface tb pb,.int .u64 0] tSs):=Ξ (by rw [h4];exact Φ w3.drew _ _);have g4:=GO.out w4 X1.out;clear h4)
      | ((with_reducible refine (S2.out w4).mono ?_);rintro _ w5 ⟨rfl,h5⟩;have X2:Hid (Only [] w3 w5):=Ξ (by rw [h5];exact X1.out.alloc _);have R2:Hid (StrmF w5 w4.heap.size [] 0 [w4.heap.size]∧Row w5 w3.heap.size #[.iface tb pb,.int .u64 0] tSs):=Ξ (by rw [h5];exact ⟨StrmF.made w4,R1.out.only ((Ω [] w4).alloc _) (by simp)⟩);have g5:=GO.out w5 X2.out;clear h5;obtain ⟨⟨q0,p0⟩,f0⟩:=LL.out w5 X2.out 0 (by omega);obtain ⟨⟨q1,p1⟩,f1⟩:=LL.out w5 X2.out 1 (by omega);obtain ⟨⟨q2,p2⟩,f2⟩:=LL.out w5 X2.out 2 (by omega);rw [Nat.add_zero] at p0 f0))
    all_goals
     go_wp2_with fail;go_meet;obtain ⟨cs3,h3⟩:=HI.out.push HJL.out HG.out X2.out (Θ _) X1.out.size (fun e=>by have:=R1.out.lt;omega) R2.out.2 R2.out.1;exact ⟨_,cs3,Ξ h3⟩
   case rest=>
    obtain ⟨ls2,cs2,HI2⟩:=hcut;have J1:=Ξ (show j+1≤n from HJL.out);clear HI HJL HJ S1 S2 LL GO;go_wp2_with fail;go_roundw;case rel=>exact ⟨j+1,by go_num,J1,ls2,cs2,HI2⟩
    case measure=>have:=J1.out;simp [intOf];omega
  ·have d1:decide ((j:Int)<(n:Int))=false:=Λ (by omega);have d1':decide (j<n)=false:=Λ hlt;obtain rfl:j=n:=by have:=HJ.out;omega
   clear hlt;go_wp2_with fail;go_ret;exact ⟨rfl,ls,cs',HI.out⟩
theorem infoLn:(prog.info? tLn).map (fun i=>(i.zero,i.size,i.bytes))=some (some (.agg #[.pointer none,.pointer none,.bool false]),3,24):=by kernel_rfl
theorem make_lines(n:Nat)(hn:n≤8):∀ x:World,(Instr.makeSlice 102 (.int .i64 (n:Int)) (.int .i64 (n:Int))).run prog x=.ok (.slice (some ⟨x.heap.size,0,none⟩) n n) (x.alloc (.cells (madeCells #[.pointer none,.pointer none,.bool false] (n * 3)) tLn)):=fun x=>by obtain ⟨i,hi,h0,h1,h2⟩:=info_parts infoLn;have hr:=run_make (P:=prog) x 102 tLn i _ underlying102 hi h0 .i64 .i64 n n (by omega) (by omega) (by rw [h2];omega) (by omega);simpa [Value.cells,h1] using hr
def MadeTo(n:Nat)(base:Value)(w:World)(e:Ending)(w':World):Prop:=∃ w0 g l ls cs,e=.returned (.tuple #[.pointer (some ⟨g,0,none⟩),.int .i64 0])∧ResI g l n base w0 n w' ls cs∧Only [] w w0∧w.heap.size≤g∧w.heap.size≤l∧g≠l∧g<w0.heap.size∧l<w0.heap.size
theorem new_on_{w:World}{n:Nat}{tb pb:_}(hn:0<n)(hn8:n≤8) :
  Calls prog 26 #[.iface tb pb,.int .i64 n] w (MadeTo n (.iface tb pb) w):=by
 have mk:=make_lines n hn8;have d1:decide ((n:Int)<1)=false:=Λ (by omega);have d2:decide ((8:Int)<(n:Int))=false:=Λ (by omega);have HN:=Ξ (Ψ hn hn8);clear hn hn8;go_enter func26,ntmps26;go_wp2_with fail;have RS:=Ξ (reset_on (w:=(w.alloc (.cells (madeCells #[.pointer none,.pointer none,.bool false] (n * 3)) tLn)).alloc (.cells #[.slice (some ⟨w.heap.size,0,none⟩) n n,.bool false] tSc)) (g:=w.heap.size+1) (l:=w.heap.size) (n:=n) (d:=false) (tb:=tb) (pb:=pb) (cs:=madeCells #[.pointer none,.pointer none,.bool false] (n * 3)) (by
  have h:=Φ (w.alloc (.cells (madeCells #[.pointer none,.pointer none,.bool false] (n * 3)) tLn)) #[.slice (some ⟨w.heap.size,0,none⟩) n n,.bool false] tSc
  rwa [World.size_alloc] at h) ((Φ w _ _).only ((Ω [] _).alloc _) (by simp)) (size_madeCells _ _) (by omega) HN.out.1 HN.out.2)
 have OO:Hid (Only [] w ((w.alloc (.cells (madeCells #[.pointer none,.pointer none,.bool false] (n * 3)) tLn)).alloc (.cells #[.slice (some ⟨w.heap.size,0,none⟩) n n,.bool false] tSc))∧w.heap.size+1<((w.alloc (.cells (madeCells #[.pointer none,.pointer none,.bool false] (n * 3)) tLn)).alloc (.cells #[.slice (some ⟨w.heap.size,0,none⟩) n n,.bool false] tSc)).heap.size):=Ξ ⟨((Ω _ w).alloc _).alloc _,by simp⟩;refine RS.out.mono ?_;generalize (w.alloc (.cells (madeCells #[.pointer none,.pointer none,.bool false] (n * 3)) tLn)).alloc (.cells #[.slice (some ⟨w.heap.size,0,none⟩) n n,.bool false] tSc)=w1 at *;rintro _ w2 ⟨rfl,ls,cs,hI⟩;have N:Hid (MadeTo n (.iface tb pb) w (.returned (.tuple #[.pointer (some ⟨w.heap.size+1,0,none⟩),.int .i64 0])) w2):=Ξ ⟨w1,_,_,ls,cs,rfl,hI,OO.out.1,by omega,Θ _,by omega,OO.out.2,by have:=OO.out.2;omega⟩;clear hI RS OO mk;go_wp2_with fail;go_ret2;exact N.out
end Go.Proofs.YtcgmgdjeamidlaaGreat
namespace Go.Proofs.YtcgmgdjeamidlaaGreat
set_option maxRecDepth 100000
set_option maxHeartbeats 16000000
open Go.RowKit Go.Shelf Go.ChangeShapes Go.WideShapes Go.ChangeAt Go.Proofs.Tryz
set_option linter.unusedVariables false
set_option linter.unusedSimpArgs false
abbrev tLnp:TypeId:=140
abbrev tErp:TypeId:=148
theorem frames_any(a b:Option Addr)(w:World):Calls prog 58 #[.pointer a,.pointer b] w fun e w'=>e=.returned (.func (.func 97) #[] #[.pointer (some ⟨w.heap.size,0,none⟩),.pointer (some ⟨w.heap.size+1,0,none⟩)])∧w'=(w.alloc (.cells #[.pointer a] tLnp)).alloc (.cells #[.pointer b] tErp):=by have hmf:=hmf_;go_enter func58,ntmps58;go_wp2_with fail;go_ret;exact ⟨rfl,rfl⟩
theorem size_ways(xs:List Int)(hb:IsBy xs):(∃ n:Nat,sizeF xs=((n:Int),0))∨sizeF xs=(0,7)∨sizeF xs=(0,3):=by
 unfold sizeF;split
 ·exact .inr (.inl rfl)
 ·split
  ·exact .inr (.inr rfl)
  ·split
   ·exact .inr (.inl rfl)
   ·rename_i h _ _
    obtain ⟨x0,e0,l0⟩:=hb.at_ (i:=0) (by omega);obtain ⟨x1,e1,l1⟩:=hb.at_ (i:=1) (by omega);obtain ⟨x2,e2,l2⟩:=hb.at_ (i:=2) (by omega);obtain ⟨x3,e3,l3⟩:=hb.at_ (i:=3) (by omega);refine .inl ⟨(le4 xs).toNat,?_⟩;have:0≤le4 xs:=by unfold le4;rw [e0,e1,e2,e3];simp only [Option.getD_some];omega
    rw [Int.toNat_of_nonneg this]
def strmLen(s:Nat)(W:World):Nat:=lenV ((W.cell? ⟨s,1,none⟩).getD undef)
theorem StrmF.len{w:World}{s:Nat}{xs:List Int}{e:Int}{F:List Nat}(h:StrmF w s xs e F):strmLen s w=xs.length:=by obtain ⟨sl,hr,hb,rfl,rfl⟩:=h;unfold strmLen;rw [hr.cell];rfl
theorem frames1_in(n:Nat)(hn:1≤n)(yl b1 b2 l o ge st:Nat)(J:List Int→World→Prop)(K:List Int→Nat→Value→World→Prop)(E:List Int→Int→World→Prop)
  (hJ:∀ xs W,J xs W→IsBy xs∧(∃ F,StrmF W st xs 0 F)∧W.cell? ⟨b1,0,none⟩=some (.pointer (some ⟨l,o,none⟩))∧W.cell? ⟨l,o+1,none⟩=some (.pointer (some ⟨st,0,none⟩)))
  (hOne:∀ xs W (k:Nat) F e W2,J xs W→StrmF W st xs 0 F→sizeF xs=((k:Int),0)→OneTo st xs k F W e W2→∃ a m c,e=.returned (.tuple #[.slice a m c,.int .i64 0])∧W2.cell? ⟨b2,0,none⟩=some (.pointer (some ⟨ge,0,none⟩))∧(∃ v,W2.cell? ⟨ge,0,none⟩=some v)∧W2.frozen? ⟨ge,0,none⟩=false∧K xs k (.slice a m c) (W2.setCell ⟨ge,0,none⟩ (.int .i64 0)))
  (hEnd:∀ xs W F d xs' er e W2,J xs W→StrmF W st xs 0 F→sizeF xs=(0,d)→((d=7∧xs'=xs∧er=0)∨(d=3∧xs'=[]∧er=3))→NoneTo st xs' er F d W e W2→W2.cell? ⟨b2,0,none⟩=some (.pointer (some ⟨ge,0,none⟩))∧(∃ v,W2.cell? ⟨ge,0,none⟩=some v)∧W2.frozen? ⟨ge,0,none⟩=false∧E xs d (W2.setCell ⟨ge,0,none⟩ (.int .i64 d)))
  (hY:∀ xs (k:Nat) p W1,sizeF xs=((k:Int),0)→K xs k p W1→YieldAt Fence.wide (n-1) prog yl #[p] W1 fun e W'=>e=.returned (.bool true)∧J (xs.drop (4+k)) W')
  (xs0:List Int) (W:World) (h0:J xs0 W) :
  CallsIn Fence.wide n prog 97 #[.func (.yield yl) #[] #[],.pointer (some ⟨b1,0,none⟩),.pointer (some ⟨b2,0,none⟩)] W fun e W'=>(∃ v,e=.returned v)∧∃ xs d,E xs d W':=by
 have hro:Fence.wide.round=none:=rfl;have HJ:=Ξ hJ;have HO:=Ξ hOne;have HE:=Ξ hEnd;have HY:=Ξ hY;have H0:=Ξ h0;clear hJ hOne hEnd hY h0;refine callsIn_of_wp func97 rfl trivial ?_ hro;simp only [ntmps97,List.size_toArray,List.length_cons,List.length_nil,Nat.reduceAdd,Nat.reduceSub,Array.replicate_succ,Array.replicate_zero,List.push_toArray,List.append_toArray,List.nil_append,List.cons_append];gi_wp2_with fail
 gi_loopw [] (fun wr=>∃ xs,Hid (J xs wr)) (fun wr=>strmLen st wr)
 case atStart=>exact ⟨xs0,H0⟩
 case round=>
  obtain ⟨xs,HI⟩:=hrel;obtain ⟨hb,⟨F,hS⟩,c1,c2⟩:=HJ.out xs wr HI.out;have SL:Hid (strmLen st wr=xs.length):=Ξ hS.len;have HS:=Ξ hS;rcases size_ways xs hb with ⟨k,hk⟩|hk|hk
  ·have N1:=Ξ (strm_one hS hb hk);have HK:=Ξ hk;clear hb hS hk;gi_wp2_with fail;refine ⟨trivial,(callsIn_wide.2 N1.out).mono ?_⟩;intro e W2 h2;obtain ⟨a,m,c,rfl,d1,⟨v,d2⟩,d3,hK⟩:=HO.out xs wr k F e W2 HI.out HS.out HK.out h2;have KK:=Ξ hK;obtain ⟨fn,tmps,assign,body,hy,hR⟩:=HY.out xs k (.slice a m c) _ HK.out hK;clear h2 hK N1 c1 c2;gi_wp2_with fail;refine hR.mono ?_;rintro e W3 ⟨rfl,hJ3⟩;have J3:=Ξ hJ3;have LM:Hid (strmLen st W3<strmLen st wr):=Ξ (by obtain ⟨_,⟨F3,hS3⟩,_⟩:=HJ.out _ W3 hJ3;have h1:=hS3.len;have h2:=(size_some HK.out).1;rw [List.length_drop] at h1;have:=SL.out;omega)
   clear hJ3 hR hy d1 d2 d3;gi_wp2_with fail;go_roundw;case rel=>exact ⟨_,J3⟩
   case measure=>exact LM.out
  ·have N1:=Ξ (strm_none hS hb hk);have HK:=Ξ hk;clear hb hS hk;gi_wp2_with fail;refine ⟨trivial,(callsIn_wide.2 N1.out).mono ?_⟩;intro e W2 h2;obtain ⟨d1,⟨v,d2⟩,d3,hE⟩:=HE.out xs wr F 7 xs 0 e W2 HI.out HS.out HK.out (.inl ⟨rfl,rfl,rfl⟩) h2;obtain ⟨rfl,_⟩:=h2;have EE:=Ξ hE;clear hE N1 c1 c2;gi_wp2_with fail;refine ⟨fun _ _=>trivial,?_⟩;gi_wp2_with fail;refine bodyPost_ret (results_none rfl _ _ _) rfl ?_;exact ⟨⟨_,rfl⟩,_,_,EE.out⟩
  ·have N1:=Ξ (strm_long hS hb hk);have HK:=Ξ hk;clear hb hS hk;gi_wp2_with fail;refine ⟨trivial,(callsIn_wide.2 N1.out).mono ?_⟩;intro e W2 h2;obtain ⟨d1,⟨v,d2⟩,d3,hE⟩:=HE.out xs wr F 3 [] 3 e W2 HI.out HS.out HK.out (.inr ⟨rfl,rfl,rfl⟩) h2;obtain ⟨rfl,_⟩:=h2;have EE:=Ξ hE;clear hE N1 c1 c2;gi_wp2_with fail;refine ⟨fun _ _=>trivial,?_⟩;gi_wp2_with fail;refine bodyPost_ret (results_none rfl _ _ _) rfl ?_;exact ⟨⟨_,rfl⟩,_,_,EE.out⟩
abbrev tBs:TypeId:=30
abbrev tEr:TypeId:=25
abbrev tScp:TypeId:=78
structure Serve(σ:Type) where
 I:σ→List Nat→World→Prop
 can:σ→List Int→Prop
 step:σ→List Int→σ→List Int→Prop
 drop:σ→σ→Prop
 ends:σ→Prop
def DidTo{σ:Type}(S:Serve σ)(s:σ)(F:List Nat)(p:List Int)(w:World)(e:Ending)(w':World):Prop:=
 ∃ s' F' zs v,S.step s p s' zs∧e=.returned v∧w'.ownsRow w.heap.size 5 1 v zs.length (zs.map (Value.int .u8))∧S.I s' F' w'∧Only F w w'∧(∀ b∈F',b∈F∨w.heap.size≤b)∧∀ b,v.ownBlock=some b→b∉F'
def ReadsTo(w:World)(e:Ending)(w':World):Prop:=∃ (k mk er pl key:Int) (a1 a2 a3 a4:Option Addr) (n1 n2 n3 n4 c1 c2 c3 c4:Nat),e=.returned (.tuple #[.agg #[.int .i64 k,.int .i64 mk,.int .i64 er,.int .i64 pl,.int .u64 key,.slice a1 n1 c1,.slice a2 n2 c2,.slice a3 n3 c3,.slice a4 n4 c4],.int .i64 0])∧er≠6∧Below w.heap.size w w'
def DropTo{σ:Type}(S:Serve σ)(s:σ)(F:List Nat)(w:World)(e:Ending)(w':World):Prop:=∃ s' F' d,S.drop s s'∧e=.returned (.int .i64 d)∧d≠6∧S.I s' F' w'∧Only F w w'∧∀ b∈F',b∈F∨w.heap.size≤b
structure Serve.Ok{σ:Type}(S:Serve σ)(ss:Nat):Prop where
 only:∀ s F w w' G,S.I s F w→Only G w w'→(∀ b∈F,b∉G)→S.I s F w'
 lt:∀ s F w,S.I s F w→∀ b∈F,b<w.heap.size
 does:∀ s F w (p:Sl),S.I s F w→SlRd .u8 w p→(p.xs≠[]→∀ b∈p.bs,b∉F)→IsBy p.xs→p.xs.length≤p.c→S.can s p.xs→Calls prog 14 #[.pointer (some ⟨ss,0,none⟩),p.v] w (DidTo S s F p.xs w)
 tells:∀ s p s' zs,S.step s p s' zs→IsBy zs∧zs.length≤1000000∧∀ (w:World) (sl:Sl),SlRd .u8 w sl→sl.xs.length≤sl.c→sl.xs=zs→Calls prog 59 #[sl.v] w (ReadsTo w)
 drops:∀ s F w,S.I s F w→S.ends s→Calls prog 20 #[.pointer (some ⟨ss,0,none⟩)] w (DropTo S s F w)
inductive Runs {σ:Type} (S:Serve σ):σ→List Int→σ→List Int→List Int→Int→Prop
 | stop (s xs):sizeF xs=(0,7)→Runs S s xs s xs [] 7
 | long (s xs):sizeF xs=(0,3)→Runs S s xs s [] [] 3
 | step (s xs) (k:Nat) (s' zs s2 ys o d):sizeF xs=((k:Int),0)→S.step s ((xs.drop 4).take k) s' zs→Runs S s' (xs.drop (4+k)) s2 ys o d→Runs S s xs s2 ys (leB (zs.length:Int) 4++zs++o) d
def Fine{σ:Type}(S:Serve σ):Nat→σ→List Int→Prop
 | 0,_,_=>True
 | n+1,s,xs=>∀ k:Nat,sizeF xs=((k:Int),0)→S.can s ((xs.drop 4).take k)∧∀ s' zs,S.step s ((xs.drop 4).take k) s' zs→Fine S n s' (xs.drop (4+k))
structure FeC where
 w:World
 q:Nat
 g:Nat
 l:Nat
 n:Nat
 m:Nat
 st:Nat
 cs:Array Value
 F0:List Nat
 S0:List Nat
abbrev FeC.B(c:FeC):Nat:=c.w.heap.size
def FeC.own(c:FeC):List Nat:=[c.B,c.B+1,c.B+2,c.B+3,c.q,c.q+1,c.q+2,c.q+3]
structure FeM{σ:Type}(S:Serve σ)(c:FeC)(s:σ)(xs:List Int)(se:Int)(out:List Int)(v:Value)(F FS:List Nat)(W:World):Prop where
 inv:S.I s F W
 strm:StrmF W c.st xs se FS
 r3:Row W c.B #[.pointer (some ⟨c.g,0,none⟩)] tScp
 r6:Row W (c.B+1) #[.slice none 0 0] tBs
 r7:Row W (c.B+2) #[.int .i64 0] tEr
 r8:Row W (c.B+3) #[.pointer (some ⟨c.l,c.m * 3,none⟩)] tLnp
 r10:Row W c.q #[v] tBs
 own:W.ownsRow (c.q+6) 5 1 v out.length (out.map (Value.int .u8))
 offv:∀ b,v.ownBlock=some b→b∉F∧b∉FS
 r11:∃ e,Row W (c.q+1) #[.int .i64 e] tEr
 x1:Row W (c.q+2) #[.pointer (some ⟨c.l,c.m * 3,none⟩)] tLnp
 x2:Row W (c.q+3) #[.pointer (some ⟨c.q+1,0,none⟩)] tErp
 rg:Row W c.g #[.slice (some ⟨c.l,0,none⟩) c.n c.n,.bool false] tSc
 rl:Row W c.l c.cs tLn
 only:Only (c.F0++c.S0) c.w W
 sepF:∀ b∈F,b<c.B∨c.q+6≤b
 sepS:∀ b∈FS,b<c.B∨(c.B+4≤b∧b<c.q)∨c.q+6≤b
 dis:∀ b∈F,b∉FS
 gl:(c.g∉F∧c.g∉FS)∧(c.l∉F∧c.l∉FS)∧c.g<c.B∧c.l<c.B∧c.B+4≤c.q
 newF:∀ b∈F,b∈c.F0∨c.B≤b
 newS:∀ b∈FS,b∈c.S0∨c.B≤b
theorem FeM.qlt{se:Int}{σ:Type}{S:Serve σ}{c:FeC}{s:σ}{xs out:List Int}{v:Value}{F FS:List Nat}{W:World}(h:FeM S c s xs se out v F FS W):c.q+3<W.heap.size:=h.x2.lt
theorem FeM.but{se:Int}{σ:Type}{S:Serve σ}{ss:Nat}(ok:S.Ok ss){c:FeC}{s:σ}{xs out:List Int}{v:Value}{F FS G:List Nat}{W W':World}(h:FeM S c s xs se out v F FS W)(k:Only G W W')
  (hG:∀ b∈G,b∉F∧b∉FS∧v.ownBlock≠some b∧b∉c.own∧b≠c.g∧b≠c.l∧c.B≤b):FeM S c s xs se out v F FS W':=by
 have hn:∀ b,b∈c.own→b∉G:=fun b hb hm=>(hG b hm).2.2.2.1 hb;obtain ⟨e,he⟩:=h.r11;refine ⟨ok.only _ _ _ _ _ h.inv k fun b hb hm=>(hG b hm).1 hb,h.strm.only k fun b hb hm=>(hG b hm).2.1 hb,h.r3.only k (hn _ (by simp [FeC.own])),h.r6.only k (hn _ (by simp [FeC.own])),h.r7.only k (hn _ (by simp [FeC.own])),h.r8.only k (hn _ (by simp [FeC.own])),h.r10.only k (hn _ (by simp [FeC.own])),
  own_keep h.own fun b hb=>k.block b (h.own.lt b hb).2 fun hm=>(hG b hm).2.2.1 hb,h.offv,⟨e,he.only k (hn _ (by simp [FeC.own]))⟩,h.x1.only k (hn _ (by simp [FeC.own])),h.x2.only k (hn _ (by simp [FeC.own])),h.rg.only k fun hm=>(hG _ hm).2.2.2.2.1 rfl,h.rl.only k fun hm=>(hG _ hm).2.2.2.2.2.1 rfl,
  h.only.trans k fun b hb=>.inr (hG b hb).2.2.2.2.2.2,h.sepF,h.sepS,h.dis,h.gl,h.newF,h.newS⟩
theorem FeM.same{se:Int}{σ:Type}{S:Serve σ}{ss:Nat}(ok:S.Ok ss){c:FeC}{s:σ}{xs out:List Int}{v:Value}{F FS:List Nat}{W W':World}(h:FeM S c s xs se out v F FS W)(k:Only [] W W'):FeM S c s xs se out v F FS W':=h.but ok k (by simp)
theorem FeM.told{se:Int}{σ:Type}{S:Serve σ}{ss:Nat}(ok:S.Ok ss){c:FeC}{s:σ}{xs out:List Int}{v:Value}{F FS:List Nat}{W:World}(h:FeM S c s xs se out v F FS W)(d:Int):FeM S c s xs se out v F FS (W.setCell ⟨c.q+1,0,none⟩ (.int .i64 d))∧Row (W.setCell ⟨c.q+1,0,none⟩ (.int .i64 d)) (c.q+1) #[.int .i64 d] tEr:=by
 have k:Only [c.q+1] W (W.setCell ⟨c.q+1,0,none⟩ (.int .i64 d)):=(Ω _ W).setCell (.inl (by simp)) _;obtain ⟨e,he⟩:=h.r11;have h1:Row (W.setCell ⟨c.q+1,0,none⟩ (.int .i64 d)) (c.q+1) #[.int .i64 d] tEr:=by simpa using he.set 0 (.int .i64 d)
 have hgl:=h.gl;have hBw:c.B=c.w.heap.size:=rfl;have n1:c.q+1∉F:=fun hm=>by have:=h.sepF _ hm;omega
 have n2:c.q+1∉FS:=fun hm=>by have:=h.sepS _ hm;omega
 have n3:v.ownBlock≠some (c.q+1):=fun hv=>by have:=(h.own.lt _ hv).1;omega
 have hn:∀ b,b≠c.q+1→b∉[c.q+1]:=fun b hb=>by simpa using hb
 refine ⟨⟨ok.only _ _ _ _ _ h.inv k fun b hb=>hn b fun e=>n1 (e ▸ hb),h.strm.only k fun b hb=>hn b fun e=>n2 (e ▸ hb),h.r3.only k (hn _ (by omega)),h.r6.only k (hn _ (by omega)),h.r7.only k (hn _ (by omega)),h.r8.only k (hn _ (by omega)),h.r10.only k (hn _ (by omega)),
  own_keep h.own fun b hb=>k.block b (h.own.lt b hb).2 (hn b fun e=>n3 (by rw [hb,e])),h.offv,⟨d,h1⟩,h.x1.only k (hn _ (by omega)),h.x2.only k (hn _ (by omega)),h.rg.only k (hn _ (by omega)),h.rl.only k (hn _ (by omega)),
  h.only.trans k (by intro b hb;simp at hb;right;omega),h.sepF,h.sepS,h.dis,h.gl,h.newF,h.newS⟩,h1⟩
theorem FeM.strmed{se se':Int}{σ:Type}{S:Serve σ}{ss:Nat}(ok:S.Ok ss){c:FeC}{s:σ}{xs ys out:List Int}{v:Value}{F FS FS':List Nat}{W W':World}(h:FeM S c s xs se out v F FS W)(k:Only FS W W')(hs:StrmF W' c.st ys se' FS')(hS:∀ b∈FS',b∈FS):FeM S c s ys se' out v F FS' W':=by
 have hgl:=h.gl;have hBw:c.B=c.w.heap.size:=rfl;have hw:=h.only.size;have ho:∀ b,b∈c.own→b∉FS:=fun b hb hm=>by have:=h.sepS b hm;simp [FeC.own] at hb;omega
 obtain ⟨e,he⟩:=h.r11;refine ⟨ok.only _ _ _ _ _ h.inv k h.dis,hs,h.r3.only k (ho _ (by simp [FeC.own])),h.r6.only k (ho _ (by simp [FeC.own])),h.r7.only k (ho _ (by simp [FeC.own])),h.r8.only k (ho _ (by simp [FeC.own])),h.r10.only k (ho _ (by simp [FeC.own])),
  own_keep h.own fun b hb=>k.block b (h.own.lt b hb).2 (h.offv b hb).2,fun b hb=>⟨(h.offv b hb).1,fun hm=>(h.offv b hb).2 (hS b hm)⟩,⟨e,he.only k (ho _ (by simp [FeC.own]))⟩,h.x1.only k (ho _ (by simp [FeC.own])),h.x2.only k (ho _ (by simp [FeC.own])),h.rg.only k h.gl.1.2,h.rl.only k h.gl.2.1.2,
  h.only.trans k fun b hb=>(h.newS b hb).imp (fun h=>List.mem_append_right _ h) id,h.sepF,fun b hb=>h.sepS b (hS b hb),fun b hb hm=>h.dis b hb (hS b hm),⟨⟨h.gl.1.1,fun hm=>h.gl.1.2 (hS _ hm)⟩,⟨h.gl.2.1.1,fun hm=>h.gl.2.1.2 (hS _ hm)⟩,h.gl.2.2⟩,h.newF,fun b hb=>h.newS b (hS b hb)⟩
theorem FeM.served{se:Int}{σ:Type}{S:Serve σ}{c:FeC}{s s':σ}{xs out:List Int}{v:Value}{F F' FS:List Nat}{W W':World}(h:FeM S c s xs se out v F FS W)(hr:c.q+6≤W.heap.size)(k:Only F W W')(hs:S.I s' F' W')(hF:∀ b∈F',b∈F∨W.heap.size≤b):FeM S c s' xs se out v F' FS W':=by
 have hgl:=h.gl;have hBw:c.B=c.w.heap.size:=rfl;have ho:∀ b,b∈c.own→b∉F:=fun b hb hm=>by have:=h.sepF b hm;simp [FeC.own] at hb;omega
 have hlt:=h.strm.lt;have hlv:=h.own.lt;have hg:=h.rg.lt;have hl:=h.rl.lt;have hw:=h.only.size;obtain ⟨e,he⟩:=h.r11;refine ⟨hs,h.strm.only k fun b hb hm=>h.dis b hm hb,h.r3.only k (ho _ (by simp [FeC.own])),h.r6.only k (ho _ (by simp [FeC.own])),h.r7.only k (ho _ (by simp [FeC.own])),h.r8.only k (ho _ (by simp [FeC.own])),h.r10.only k (ho _ (by simp [FeC.own])),
  own_keep h.own fun b hb=>k.block b (h.own.lt b hb).2 (h.offv b hb).1,fun b hb=>⟨fun hm=>(hF b hm).elim (h.offv b hb).1 fun h1=>by have:=(hlv b hb).2;omega,(h.offv b hb).2⟩,⟨e,he.only k (ho _ (by simp [FeC.own]))⟩,h.x1.only k (ho _ (by simp [FeC.own])),h.x2.only k (ho _ (by simp [FeC.own])),h.rg.only k h.gl.1.1,h.rl.only k h.gl.2.1.1,
  h.only.trans k fun b hb=>(h.newF b hb).imp (fun h=>List.mem_append_left _ h) id,fun b hb=>(hF b hb).elim (h.sepF b) fun h1=>by omega,h.sepS,fun b hb hm=>(hF b hb).elim (fun h1=>h.dis b h1 hm) fun h1=>by have:=hlt b hm;omega,⟨⟨fun hm=>(hF _ hm).elim h.gl.1.1 fun h1=>by omega,h.gl.1.2⟩,⟨fun hm=>(hF _ hm).elim h.gl.2.1.1 fun h1=>by omega,h.gl.2.1.2⟩,h.gl.2.2⟩,fun b hb=>(hF b hb).elim (h.newF b) fun h1=>.inr (by omega),h.newS⟩
theorem FeM.put{se:Int}{σ:Type}{S:Serve σ}{ss:Nat}(ok:S.Ok ss){c:FeC}{s:σ}{xs out zs:List Int}{v v':Value}{F FS:List Nat}{W W':World}(h:FeM S c s xs se out v F FS W)(hr:c.q+6≤W.heap.size)(ho:W'.ownsRow (c.q+6) 5 1 v' (out.length+zs.length) (out.map (Value.int .u8)++zs.map (Value.int .u8)))(hg:W.grownBy W' v.ownBlock)
  (hv:∀ b,v'.ownBlock=some b→v.ownBlock=some b∨W.heap.size≤b):FeM S c s xs se (out++zs) v' F FS (W'.setCell ⟨c.q,0,none⟩ v'):=by
 have k:Only v.ownBlock.toList W W':=(Ω _ W).grown hg (fun k hk=>.inl (by simp [hk]));have k2:Only [c.q] W' (W'.setCell ⟨c.q,0,none⟩ v'):=(Ω _ W').setCell (.inl (by simp)) _;have hgl:=h.gl;have hBw:c.B=c.w.heap.size:=rfl;have hw:=h.only.size;have hgB:∀ b,v.ownBlock=some b→c.q+6≤b:=fun b hb=>(h.own.lt b hb).1;have no:∀ b,b<c.q+6→b∉v.ownBlock.toList:=fun b hb hm=>by have:=hgB b (by simpa using hm);omega
 have nq:∀ b,b≠c.q→b∉[c.q]:=fun b hb=>by simpa using hb
 have nF:∀ b∈F,b∉v.ownBlock.toList:=fun b hb hm=>(h.offv b (by simpa using hm)).1 hb;have nS:∀ b∈FS,b∉v.ownBlock.toList:=fun b hb hm=>(h.offv b (by simpa using hm)).2 hb;have qF:c.q∉F:=fun hm=>by have:=h.sepF _ hm;omega
 have qS:c.q∉FS:=fun hm=>by have:=h.sepS _ hm;omega
 obtain ⟨e,he⟩:=h.r11;have hltF:=ok.lt _ _ _ h.inv;have hltS:=h.strm.lt;have r:∀ {b:Nat} {cs:Array Value} {T:TypeId},Row W b cs T→b<c.q+6→b≠c.q→Row (W'.setCell ⟨c.q,0,none⟩ v') b cs T:=fun hb h1 h2=>(hb.only k (no _ h1)).only k2 (nq _ h2);refine ⟨ok.only _ _ _ _ _ (ok.only _ _ _ _ _ h.inv k nF) k2 fun b hb=>nq b fun e=>qF (e ▸ hb),(h.strm.only k nS).only k2 fun b hb=>nq b fun e=>qS (e ▸ hb),r h.r3 (by omega) (by omega),r h.r6 (by omega) (by omega),r h.r7 (by omega) (by omega),r h.r8 (by omega) (by omega),
  by simpa using (h.r10.only k (no _ (by omega))).set 0 v',by rw [List.length_append,List.map_append];exact own_keep ho fun b hb=>k2.block b (ho.lt b hb).2 (nq b (by have:=(ho.lt b hb).1;omega)),fun b hb=>?_,⟨e,r he (by omega) (by omega)⟩,r h.x1 (by omega) (by omega),r h.x2 (by omega) (by omega),r h.rg (by omega) (by omega),r h.rl (by omega) (by omega),
  (h.only.trans k fun b hb=>.inr (by have:=hgB b (by simpa using hb);omega)).trans k2 (by intro b hb;simp at hb;right;omega),h.sepF,h.sepS,h.dis,h.gl,h.newF,h.newS⟩
 rcases hv b hb with h1|h1
 ·exact h.offv b h1
 ·exact ⟨fun hm=>by have:=hltF b hm;omega,fun hm=>by have:=hltS b hm;omega⟩
structure FeL{σ:Type}(S:Serve σ)(s0:σ)(xs0:List Int)(s:σ)(xs out:List Int):Prop where
 by_:IsBy xs
 runs:∀ s' ys o d,Runs S s xs s' ys o d→Runs S s0 xs0 s' ys (out++o) d
 fine:Fine S (xs.length+1) s xs
 len:out.length+1000004 * xs.length≤1000004000000
 outb:IsBy out
theorem Fine.less{σ:Type}{S:Serve σ}:∀ (n m:Nat) (s:σ) (xs:List Int),m≤n→Fine S n s xs→Fine S m s xs
 | _,0,_,_,_,_=>trivial
 | 0,m+1,_,_,h,_=>by omega
 | n+1,m+1,s,xs,h,hf=>fun k hk=>⟨(hf k hk).1,fun s' zs hs=>Fine.less n m s' _ (by omega) ((hf k hk).2 s' zs hs)⟩
theorem FeL.step{σ:Type}{S:Serve σ}{ss:Nat}(ok:S.Ok ss){s0:σ}{xs0:List Int}{s s':σ}{xs out zs:List Int}(h:FeL S s0 xs0 s xs out){k:Nat}(hk:sizeF xs=((k:Int),0))(hs:S.step s ((xs.drop 4).take k) s' zs) :
  FeL S s0 xs0 s' (xs.drop (4+k)) (out++(leB (zs.length:Int) 4++zs)):=by
 obtain ⟨h1,h2,_⟩:=ok.tells _ _ _ _ hs;have h4:=(size_some hk).1;have hl:=h.len;refine ⟨h.by_.drop _,fun s2 ys o d hr=>?_,?_,?_,h.outb.append ((leB_by _ _).append h1)⟩
 ·rw [List.append_assoc];exact h.runs _ _ _ _ (.step s xs k s' zs s2 ys o d hk hs hr)
 ·refine Fine.less _ _ _ _ ?_ ((h.fine k hk).2 s' zs hs);rw [List.length_drop];omega
 ·simp only [List.length_append,List.length_drop,leB_len];omega
end Go.Proofs.YtcgmgdjeamidlaaGreat
