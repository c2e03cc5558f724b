/- Texts of one proof, joined. -/
import Derived.Test.YtcgmgdjeamidlaaGreatMg17
import Derived.Test.YtcgmgdjeamidlaaGreatMg33
import Derived.OwnWalk
namespace Go.Proofs.YtcgmgdjeamidlaaGreat
set_option maxRecDepth 100000
set_option maxHeartbeats 16000000
open Go.RowKit Go.ChangeShapes Go.WideShapes Go.ChangeAt
set_option linter.unusedVariables false
def valL(k:Int)(l:List Nat):List Int:=l.map fun x=>(quantG x k).1
def markL(k:Int)(l:List Nat):Int:=l.foldl (fun m x=>bits .or .i64 m (quantG x k).2.1) 0
def okL(k:Int)(l:List Nat):Prop:=∀ x∈l,(quantG x k).2.2=0
theorem markL_snoc(k:Int)(l:List Nat)(x:Nat):markL k (l++[x])=bits .or .i64 (markL k l) (quantG x k).2.1:=by unfold markL;rw [List.foldl_append];rfl
theorem valL_snoc(k:Int)(l:List Nat)(x:Nat):valL k (l++[x])=valL k l++[(quantG x k).1]:=by simp [valL]
theorem quantG_wf(x:Nat)(k:Int) : -2147483648≤(quantG x k).1∧(quantG x k).1≤2147483647∧0≤(quantG x k).2.1∧(quantG x k).2.1≤5∧0≤(quantG x k).2.2∧(quantG x k).2.2≤10:=by
 unfold quantG;have hl:∀ s N,-2147483648≤limV s N∧limV s N≤2147483647:=by intro s N;unfold limV;cases s<;>simp only [Bool.false_eq_true,if_false,if_true]<;>(constructor<;>(split<;>omega))
 have hm:∀ s N ex,0≤limM s N ex∧limM s N ex≤5:=by intro s N ex;unfold limM;cases s<;>cases ex<;>simp only [Bool.false_eq_true,if_false,if_true]<;>(constructor<;>(repeat' split)<;>omega)
 by_cases h1:k < -64∨64<k
 ·rw [if_pos h1];decide
 ·rw [if_neg h1];by_cases h2:9218868437227405312<Fl.rg x
  ·rw [if_pos h2];decide
  ·rw [if_neg h2];by_cases h3:Fl.rg x=9218868437227405312
   ·rw [if_pos h3];cases Fl.sg x<;>decide
   ·rw [if_neg h3];exact ⟨(hl _ _).1,(hl _ _).2,(hm _ _ _).1,(hm _ _ _).2,Int.le_refl _,show (0:Int)≤10 by omega⟩
theorem infoI32:(Tryz.prog.info? 21).map (fun i=>(i.zero,i.size,i.bytes))=some (some (.int .i32 0),1,4):=by kernel_rfl
def firstBad(k:Int):List Nat→Option (Nat×Int)
 | []=>none
 | x :: l=>if (quantG x k).2.2=0 then (firstBad k l).map fun p=>(p.1+1,p.2) else some (0,(quantG x k).2.2)
theorem firstBad_none{k:Int}:∀ {l:List Nat},okL k l→firstBad k l=none
 | [],_=>rfl
 | x :: l,h=>by unfold firstBad;rw [if_pos (h x (List.mem_cons_self ..)),firstBad_none fun y hy=>h y (List.mem_cons_of_mem _ hy)];rfl
theorem firstBad_some{k:Int}:∀ {l:List Nat} {i:Nat} (hi:i<l.length),okL k (l.take i)→(quantG l[i] k).2.2≠0→firstBad k l=some (i,(quantG l[i] k).2.2)
 | x :: l,0,_,_,hb=>by unfold firstBad;rw [if_neg (by simpa using hb)];rfl
 | x :: l,i+1,hi,ho,hb=>by
  unfold firstBad;have hi':i<l.length:=by simpa using hi
  rw [if_pos (ho x (by simp)),firstBad_some hi' (fun y hy=>ho y (by simp [hy])) (by simpa using hb)];simp
def allG(k:Int)(l:List Nat):List Int×Int×Int×Int:=
 if k < -64∨64<k then ([],0,0,2) else if l.length=0∨4096<l.length then ([],0,0,9) else
 match firstBad k l with
 | some (i,e)=>([],0,i,e)
 | none=>(valL k l,markL k l,0,0)
def AllPost(vs:List Int)(m q er:Int)(w:World)(e:Ending)(w':World):Prop:=∃ r,e=.returned (.tuple #[r,.int .i64 m,.int .i64 q,.int .i64 er])∧w'.ownsRow w.heap.size 21 1 r vs.length (vs.map (Value.int .i32))∧Below w.heap.size w w'
def AllC(f:FuncId)(v:Value)(k:Int)(vs:List Int)(m q er:Int)(w:World):Prop:=Calls Tryz.prog f #[v,.int .i64 k] w (AllPost vs m q er w)
theorem own_none(w:World):w.ownsRow w.heap.size 21 1 (.slice none 0 0) 0 []:=⟨rfl,.inl ⟨rfl,rfl⟩⟩
def nats(l:List Nat):List Int:=l.map fun (x:Nat)=>(x:Int)
theorem nats_at(l:List Nat)(i:Nat)(h:i<l.length):(nats l)[i]?.getD 0=(l[i]:Int):=by simp [nats,h]
theorem made_zero(n:Nat):(madeCells (Value.int .i32 0).cells (n * 1)).toList=(List.replicate n (0:Int)).map (Value.int .i32):=by
 rw [Nat.mul_one,List.map_replicate];apply List.ext_getElem
 ·simp [madeCells]
 ·intro i h1 h2;simp [madeCells,Value.cells,Nat.mod_one]
theorem all_scale(v:Value)(k:Int)(w:World)(hk:k < -64∨64<k):AllC 188 v k [] 0 0 2 w:=by unfold AllC;have G:=good_any k;rw [decide_eq_false (by omega)] at G;have G':=Lib.hid G;clear G hk;go_enter Tryz.func188,Tryz.ntmps188;go_wp2_with fail;refine (G'.out _).mono ?_;rintro _ w' ⟨rfl,rfl⟩;go_wp2_with fail;refine bodyPost_ret (v:=.tuple #[.slice none 0 0,.int .i64 0,.int .i64 0,.int .i64 2]) (by simp [results,Tryz.results188,go_sem]) rfl ⟨_,rfl,own_none _,Below.refl _ _⟩
theorem all_dim(a:Option Addr)(n c:Nat)(k:Int)(w:World)(k1 : -64≤k)(k2:k≤64)(hn:n=0∨4096<n)(hc:n≤5000):AllC 188 (.slice a n c) k [] 0 0 9 w:=by
 unfold AllC;have G:=good_any k;rw [decide_eq_true (by omega)] at G;have G':=Lib.hid G;clear G;rcases hn with rfl|hn;all_goals
  go_enter Tryz.func188,Tryz.ntmps188;go_wp2_with fail;refine (G'.out _).mono ?_;rintro _ w' ⟨rfl,rfl⟩;go_wp2_with fail;refine bodyPost_ret (v:=.tuple #[.slice none 0 0,.int .i64 0,.int .i64 0,.int .i64 9]) (by simp [results,Tryz.results188,go_sem]) rfl ⟨_,rfl,own_none _,Below.refl _ _⟩
def soFar(k:Int)(l:List Nat)(i:Nat):List Int:=valL k (l.take i)++List.replicate (l.length-i) 0
theorem soFar_next(k:Int)(l:List Nat)(i:Nat)(h:i<l.length):((soFar k l i).map (Value.int .i32)).set i (.int .i32 (quantG l[i] k).1)=(soFar k l (i+1)).map (Value.int .i32):=by
 rw [←List.map_set];congr 1;unfold soFar;have e1:List.replicate (l.length-i) (0:Int)=0 :: List.replicate (l.length-(i+1)) 0:=by rw [←List.replicate_succ,show l.length-(i+1)+1=l.length-i by omega]
 have hL:(valL k (l.take i)).length=i:=by simp [valL];omega
 rw [e1,List.set_append_right _ _ (by omega),hL,Nat.sub_self,List.set_cons_zero,List.take_succ_eq_append_getElem h,valL_snoc,List.append_assoc];rfl
theorem take_ok{k:Int}{l:List Nat}{i:Nat}(h:okL k (l.take i))(hi:i<l.length)(h0:(quantG l[i] k).2.2=0):okL k (l.take (i+1)):=by
 intro x hx;rw [List.take_succ_eq_append_getElem hi] at hx;rcases List.mem_append.1 hx with hx|hx
 ·exact h x hx
 ·simp only [List.mem_singleton] at hx;rw [hx];exact h0
def AllEnds(k:Int)(l:List Nat)(vs:List Int)(m q er:Int):Prop:=(okL k l→vs=valL k l∧m=markL k l∧q=0∧er=0)∧∀ i (hi:i<l.length),okL k (l.take i)→(quantG l[i] k).2.2≠0→vs=[]∧m=0∧q=i∧er=(quantG l[i] k).2.2
theorem all_go(b off cap n:Nat)(k:Int)(l:List Nat)(vs:List Int)(m q er:Int)(w:World)(hx:∀ x∈l,x<18446744073709551616)(hl:l.length=n)(hcell:∀ i,i<n→w.cell? ⟨b,off+i,none⟩=some (.int .u64 ((nats l)[i]?.getD 0)))(hbw:b<w.heap.size)(n0:0<n)(n1:n≤4096)(k1 : -64≤k)(k2:k≤64)(hE:Hid (AllEnds k l vs m q er)) :
  AllC 188 (.slice (some ⟨b,off,none⟩) n cap) k vs m q er w:=by
 unfold AllC;have G:=good_any k;rw [decide_eq_true (by omega)] at G;have G':=Lib.hid G;clear G;have HC:=Lib.hid hcell;have HX:=Lib.hid hx;have HL:=Lib.hid hl;obtain ⟨i0,hi0,hz0,hz1,hz2⟩:=info_parts infoI32;clear hcell hx hl;have q1:((n:Int) == 0)=false:=by simpa using (by omega:¬ n=0)
 have q2:decide ((4096:Int)<(n:Int))=false:=decide_eq_false (by omega);go_enter Tryz.func188,Tryz.ntmps188;go_wp2_with fail;refine (G'.out _).mono ?_;rintro _ w' ⟨rfl,rfl⟩;go_wp2_with (refine wpList_make_full _ rfl (.tmp 29) (.tmp 29) 35 rfl w'.heap.size 21 i0 (.int .i32 0) 1 Tryz.underlying35 hi0 hz0 hz1 .i64 .i64 (n:Int) (n:Int) n rfl rfl rfl rfl ?s1 ?s2 ?s3 ?s4);case s1=>rw [hz2];omega
 case s2=>unfold maxLen;omega
 case s3=>exact Nat.le_refl _
 case s4=>
  intro w1 hown hg;have b1:Below w'.heap.size w' w1:=(Below.refl _ _).grown hg (Nat.le_refl _) (by simp);have hz:w1.heap.size=w1.heap.size:=rfl;have O1:Hid (w1.ownsRow w'.heap.size 21 1 (.slice (some ⟨w'.heap.size,0,none⟩) n n) n ((soFar k l 0).map (Value.int .i32))):=Lib.hid (by
   have e:(madeCells #[Value.int .i32 0] n).toList=(soFar k l 0).map (Value.int .i32):=by have:=made_zero n;rw [Nat.mul_one] at this;unfold soFar;rw [List.take_zero,HL.out];exact this
   rw [←e];exact hown)
  have B1:=Lib.hid b1;clear hown hg b1 hz;go_wp2_with fail;go_loopw [33,9] (fun u t wr=>∃ i:Nat,i≤n∧u=.int .i64 i∧t=.int .i64 (markL k (l.take i))∧Hid (okL k (l.take i))∧Hid (wr.ownsRow w'.heap.size 21 1 (.slice (some ⟨w'.heap.size,0,none⟩) n n) n ((soFar k l i).map (Value.int .i32)))∧Hid (Below w'.heap.size w' wr)) (fun u _ _=>n-(intOf u).toNat)
  case atStart=>exact ⟨0,Nat.zero_le _,rfl,rfl,Lib.hid (by intro x hx;simp at hx),O1,B1⟩
  case round=>
   obtain ⟨i,hin,rfl,rfl,OK,OI,BI⟩:=hrel;by_cases hlt:i<n
   ·have hil:i<l.length:=by rw [HL.out];exact hlt
    have HQ:=Lib.hid (quant_any l[i] k (HX.out _ (List.getElem_mem hil)));have C:=HC.out i hlt;rw [nats_at l i hil,←BI.out.cell (p:=⟨b,off+i,none⟩) hbw] at C;have fz:=OI.out.frozenAt i;have cD:wr.cell? ⟨w'.heap.size,i,none⟩=some (.int .i32 0):=by
     rw [OI.out.cellAt i (by omega)];have hL:(valL k (l.take i)).length=i:=by simp [valL];omega
     unfold soFar;rw [List.map_append,List.getElem?_append_right (by simp [hL]),List.length_map,hL,Nat.sub_self,HL.out,List.map_replicate,List.getElem?_replicate,if_pos (by omega)]
    obtain ⟨wf1,wf2,wf3,wf4,wf5,wf6⟩:=quantG_wf l[i] k;have HV:=Lib.hid (soFar_next k l i hil);have HM:=Lib.hid (markL_snoc k (l.take i) l[i]);rw [←List.take_succ_eq_append_getElem hil] at HM;by_cases h0:(quantG l[i] k).2.2=0
    ·have OK2:=Lib.hid (take_ok OK.out hil h0);rw [h0] at HQ;generalize (quantG l[i] k).1=qv at *;generalize (quantG l[i] k).2.1=qm at *;clear h0 wf5 wf6;go_wp2_with fail;refine (HQ.out _).mono ?_;rintro _ w2 ⟨rfl,rfl⟩;go_wp2_with fail;go_roundw;case rel=>
      have hs:=OI.out.stored i (.int .i32 qv);rw [HV.out] at hs;exact ⟨i+1,by omega,by go_num,by rw [HM.out],OK2,Lib.hid hs.1,Lib.hid (BI.out.grown hs.2 BI.out.size (fun k hk=>by simp at hk;omega))⟩
     case measure=>simp [intOf];omega
    ·have hE2:=Lib.hid (hE.out.2 i hil OK.out h0);have hne:((quantG l[i] k).2.2 == 0)=false:=by simpa using h0
     generalize (quantG l[i] k).1=qv at *;generalize (quantG l[i] k).2.1=qm at *;generalize (quantG l[i] k).2.2=qe at *;go_wp2_with fail;refine (HQ.out _).mono ?_;rintro _ w2 ⟨rfl,rfl⟩;go_wp2_with fail;obtain ⟨rfl,rfl,rfl,rfl⟩:=hE2.out;refine bodyPost_ret (v:=.tuple #[.slice none 0 0,.int .i64 0,.int .i64 i,.int .i64 er]) (by simp [results,Tryz.results188,go_sem]) rfl ⟨_,rfl,own_mono (own_none _) BI.out.size,BI.out⟩
   ·obtain rfl:i=n:=by omega
    have ht:l.take i=l:=List.take_of_length_le (by rw [HL.out];exact Nat.le_refl _);rw [ht] at OK ⊢;obtain ⟨rfl,rfl,rfl,rfl⟩:=hE.out.1 OK.out;go_wp2_with fail;refine bodyPost_ret (v:=.tuple #[.slice (some ⟨w'.heap.size,0,none⟩) i i,.int .i64 (markL k l),.int .i64 0,.int .i64 0]) (by simp [results,Tryz.results188,go_sem]) rfl ⟨_,rfl,?_,BI.out⟩;have e:soFar k l i=valL k l:=by unfold soFar;rw [ht,HL.out,Nat.sub_self];simp
    have o:=OI.out;rw [e] at o;have hv:(valL k l).length=i:=by simp [valL,HL.out]
    rw [hv];exact o
end Go.Proofs.YtcgmgdjeamidlaaGreat
