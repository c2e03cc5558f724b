/- Texts of one proof, joined. -/
import Derived.Test.YtcgmgdjeamidlaaGreatMg37
import Derived.Test.YtcgmgdjeamidlaaGreatMg35
import Derived.Test.YtcgmgdjeamidlaaGreatMg22
import Derived.Test.YtcgmgdjeamidlaaGreatMg11
namespace Go.Proofs.YtcgmgdjeamidlaaGreat
set_option maxRecDepth 100000
set_option maxHeartbeats 16000000
open Go.RowKit Go.ChangeShapes Go.WideShapes Go.ChangeAt Go.Proofs.Tryz
set_option linter.unusedVariables false
set_option linter.unusedSimpArgs false
abbrev hitR(c0 c1 c2 c3:Int)(a:Option Addr)(n c:Nat):Array Value:=#[.int .i64 c0,.int .i64 c1,.int .i64 c2,.int .i64 c3,.int .u64 0,.slice none 0 0,.slice none 0 0,.slice none 0 0,.slice a n c]
def KnnCall(ss:Nat)(row:Array Value)(F:List Nat)(lo:Nat)(Q:Array Value→World→Prop)(y:World)(e:Ending)(y':World):Prop:=∃ (c0 c1 c2 c3:Int) (a:Option Addr) (n c:Nat),MethTo ss row (hitR c0 c1 c2 c3 a n c) F (Lst (Own ss lo y.heap.size) (Q (hitR c0 c1 c2 c3 a n c))) y e y'
theorem putf_bad{w:World}{ss p:Nat}{u m pl er:Int}{vs:List Int}{x:Rq}  (hs:Row w ss #[baseV p,.int .u64 u] tSs)
  (qa:∀ y,Only [] w y→AllC 188 x.fl.v x.scale vs m pl er y) (her:er≠0) :
  Calls prog 150 #[.pointer (some ⟨ss,0,none⟩),.agg x.cells] w fun e w'=>e=.returned (.agg (repC 2 0 er pl))∧Below w.heap.size w w':=by
 unfold AllC AllPost at qa;have QA:=Ξ qa;obtain ⟨W1,hW1,K1,RR,RB,S1,Z1,_⟩:=ses_pre (x:=x) (F:=[]) hs (by simp) (by simp);have FL:Hid (x.fl.v=.slice x.fl.a x.fl.xs.length x.fl.c):=Ξ rfl;have l8:=RB.out.c 8 (.slice x.fl.a x.fl.xs.length x.fl.c);have l9:=RB.out.c 9 (.int .i64 x.scale);rw [hW1] at l8 l9;have RF:=Ξ (refused_on er pl);unfold refCells at RF;have hne:(er != 0)=true:=by simp [her]
 clear her;clear qa hs;unfold Rq.cells Sl.v zeroRp baseV repC at *;go_enter func150,ntmps150;go_wp2_with fail;rw [←hW1];clear hW1 l8 l9;refine (QA.out W1 K1.out).mono ?_;rintro _ w2 ⟨r,rfl,hr,hb2⟩;have HR:=Ξ hr;have B2:=Ξ hb2;have R2:=Ξ (RR.out.only ((Ω [] _).below hb2) (by simp));have RB2:=Ξ (RB.out.only ((Ω [] _).below hb2) (by simp));obtain ⟨pr,cr,rfl,_⟩:=own_shape hr;clear hr hb2;go_wp2_with fail;refine (RF.out _).mono ?_;rintro _ w4 ⟨rfl,hb⟩;have HB:=Ξ hb;have R4:=Ξ (R2.out.only ((Ω [] _).below hb) (by simp));obtain ⟨q0,q1,q2,q3,q4,q5,q6,q7,q8⟩:=R4.out.cs9;obtain ⟨v0,v1,v2,v3,v4,v5,v6,v7,v8⟩:=R4.out.fs9;clear hb;go_wp2_with fail;refine bodyPost_ret (results_rp_one rfl _ _ (w.heap.size+1) _ rfl rfl (rowset9 R4.out).1) rfl ?_;have b1:=(K1.out.toBelow (Θ _) (by simp)).trans ((B2.out.trans (HB.out.mono B2.out.size)).mono K1.out.size);exact ⟨rfl,b1.trans ((rowset9 R4.out).2.toBelow b1.size (by simp))⟩
theorem knnf_bad{w:World}{ss p:Nat}{u m pl er:Int}{vs:List Int}{x:Rq}  (hs:Row w ss #[baseV p,.int .u64 u] tSs)
  (qa:∀ y,Only [] w y→AllC 188 x.fl.v x.scale vs m pl er y) (her:er≠0) :
  Calls prog 151 #[.pointer (some ⟨ss,0,none⟩),.agg x.cells] w fun e w'=>e=.returned (.agg (repC 2 0 er pl))∧Below w.heap.size w w':=by
 unfold AllC AllPost at qa;have QA:=Ξ qa;obtain ⟨W1,hW1,K1,RR,RB,S1,Z1,_⟩:=ses_pre (x:=x) (F:=[]) hs (by simp) (by simp);have FL:Hid (x.fl.v=.slice x.fl.a x.fl.xs.length x.fl.c):=Ξ rfl;have l8:=RB.out.c 8 (.slice x.fl.a x.fl.xs.length x.fl.c);have l9:=RB.out.c 9 (.int .i64 x.scale);rw [hW1] at l8 l9;have RF:=Ξ (refused_on er pl);unfold refCells at RF;have hne:(er != 0)=true:=by simp [her]
 clear her;clear qa hs;unfold Rq.cells Sl.v zeroRp baseV repC at *;go_enter func151,ntmps151;go_wp2_with fail;rw [←hW1];clear hW1 l8 l9;refine (QA.out W1 K1.out).mono ?_;rintro _ w2 ⟨r,rfl,hr,hb2⟩;have HR:=Ξ hr;have B2:=Ξ hb2;have R2:=Ξ (RR.out.only ((Ω [] _).below hb2) (by simp));have RB2:=Ξ (RB.out.only ((Ω [] _).below hb2) (by simp));obtain ⟨pr,cr,rfl,_⟩:=own_shape hr;clear hr hb2;go_wp2_with fail;refine (RF.out _).mono ?_;rintro _ w4 ⟨rfl,hb⟩;have HB:=Ξ hb;have R4:=Ξ (R2.out.only ((Ω [] _).below hb) (by simp));obtain ⟨q0,q1,q2,q3,q4,q5,q6,q7,q8⟩:=R4.out.cs9;obtain ⟨v0,v1,v2,v3,v4,v5,v6,v7,v8⟩:=R4.out.fs9;clear hb;go_wp2_with fail;refine bodyPost_ret (results_rp_one rfl _ _ (w.heap.size+1) _ rfl rfl (rowset9 R4.out).1) rfl ?_;have b1:=(K1.out.toBelow (Θ _) (by simp)).trans ((B2.out.trans (HB.out.mono B2.out.size)).mono K1.out.size);exact ⟨rfl,b1.trans ((rowset9 R4.out).2.toBelow b1.size (by simp))⟩
theorem putf_to{w:World}{ss p:Nat}{u m pl er:Int}{vs:List Int}{x:Rq}{k m1 e1 pl1 eb:Int}{F:List Nat}{Q:World→Prop}  (hs:Row w ss #[baseV p,.int .u64 u] tSs)
  (qa:∀ y,Only [] w y→AllC 188 x.fl.v x.scale vs m pl er y) (her:er=0) (hv:vs.length≤4096) (hF:ss∉F) (hl:∀ b∈F,b<w.heap.size)
  (call:∀ (y:World) (v:Sl),Only [] w y→SlRd .i32 y v→v.xs=vs→Calls prog 234 #[.pointer (some ⟨p,0,none⟩),.int .u64 u,.agg #[.int .u64 x.it.key,v.v,x.it.tag.v]] y (CallTo ss (.int .i64 eb) F w.heap.size Q y))
  (wr:∀ y,Calls prog 187 #[.pointer (some ⟨ss,0,none⟩),.int .i64 eb,.int .i64 m] y fun e y'=>e=.returned (.agg (repC k m1 e1 pl1))∧Below y.heap.size y y') :
  Calls prog 150 #[.pointer (some ⟨ss,0,none⟩),.agg x.cells] w (MethTo ss #[baseV p,.int .u64 u] (repC k m1 e1 pl1) F Q w):=by
 unfold AllC AllPost at qa;have QA:=Ξ qa;obtain ⟨W1,hW1,K1,RR,RB,S1,Z1,_⟩:=ses_pre (x:=x) (F:=[]) hs (by simp) (by simp);have FL:Hid (x.fl.v=.slice x.fl.a x.fl.xs.length x.fl.c):=Ξ rfl;have l8:=RB.out.c 8 (.slice x.fl.a x.fl.xs.length x.fl.c);have l9:=RB.out.c 9 (.int .i64 x.scale);rw [hW1] at l8 l9;unfold CallTo at call;unfold MethTo;have CL:=Ξ call;have WR:=Ξ wr;have HV:=Ξ hv;have NFL:Hid (∀ b∈F,b<w.heap.size):=Ξ hl;have NF:Hid (ss∉F∧w.heap.size∉F∧w.heap.size+1∉F∧ss<w.heap.size):=Ξ ⟨hF,fun h=>by have:=hl _ h;omega,fun h=>by have:=hl _ h;omega,hs.lt⟩;have hm:∀ w:World,(method 454 24 (.pointer (some ⟨p,0,none⟩)) "Put").run prog w=.ok (234,.pointer (some ⟨p,0,none⟩)) w:=fun _=>by kernel_rfl
 subst her;clear call wr hv hF hl;clear qa hs;unfold Rq.cells Sl.v zeroRp baseV repC at *;go_enter func150,ntmps150;go_wp2_with fail;rw [←hW1];clear hW1 l8 l9;refine (QA.out W1 K1.out).mono ?_;rintro _ w2 ⟨r,rfl,hr,hb2⟩;have HR:=Ξ hr;have B2:=Ξ hb2;have R2:=Ξ (RR.out.only ((Ω [] _).below hb2) (by simp));have RB2:=Ξ (RB.out.only ((Ω [] _).below hb2) (by simp));obtain ⟨pr,cr,rfl,_⟩:=own_shape hr;obtain ⟨sv,hsv,hsx,hsr,hsb⟩:∃ s:Sl,Value.slice pr vs.length cr=s.v∧s.xs=vs∧SlAt .i32 w2 s∧∀ b∈s.bs,W1.heap.size≤b:=by obtain ⟨s,h1,h2,h3,h4⟩:=SlAt.of_own hr (by have:=HV.out;omega);exact ⟨s,h1,h2,h3,fun b hb=>(h4 b hb)⟩
 have SV:=Ξ (Ψ hsv (Ψ hsx (Ψ hsr hsb)));clear hr hb2 hsv hsx hsr hsb;generalize hNN:vs.length=NN at *;have HNN:=Ξ hNN;clear hNN;have f2:=RB2.out.free 2;have z2:=RB2.out.cell 2;simp only [List.getElem?_toArray,List.getElem?_cons_zero,List.getElem?_cons_succ] at z2;have R3:Hid (Row (w2.setCell ⟨w.heap.size,2,none⟩ (.slice pr NN cr)) w.heap.size #[.int .i64 x.kind,.int .u64 x.it.key,.slice pr NN cr,.slice x.it.tag.a x.it.tag.xs.length x.it.tag.c,.int .u64 x.key,.int .u64 x.hi,.int .i64 x.n,.slice x.q.a x.q.xs.length x.q.c,.slice x.fl.a x.fl.xs.length x.fl.c,.int .i64 x.scale] tRq):=Ξ (by simpa using RB2.out.set 2 (.slice pr NN cr));have X3:Hid (Only [w.heap.size] w2 (w2.setCell ⟨w.heap.size,2,none⟩ (.slice pr NN cr))):=Ξ ((Ω [w.heap.size] w2).setCell (.inl (by simp)) _);go_wp2_with fail;generalize w2.setCell ⟨w.heap.size,2,none⟩ (.slice pr NN cr)=w3 at *;clear z2 f2;have Y3:Hid (Only [w.heap.size] W1 w3):=Ξ (((Ω [w.heap.size] W1).below B2.out).trans X3.out (by intro i hi;left;exact hi));have K3:Hid (Only [] w w3):=Ξ (K1.out.trans Y3.out (by intro i hi;right;simp at hi;omega));have S3:=Ξ (S1.out.only Y3.out (by have:=NF.out;simp;omega));have RZ3:=Ξ (RR.out.only Y3.out (by simp));have V3:Hid (∀ y,Only F w3 y→SlRd .i32 y sv):=Ξ fun y hy=>by have h1:=SV.out.2.2.2;have z1:=Z1.out;exact ((SV.out.2.2.1.only X3.out (by intro b hb;have:=h1 b hb;simp;omega)).only (G:=F) hy (by intro b hb hf;have:=h1 b hb;have:=NFL.out b hf;omega)).rd
 have SO:Hid (∀ y,Only F w3 y→y.cell? ⟨ss,0,none⟩=some (.iface 24 (.pointer (some ⟨p,0,none⟩)))∧y.cell? ⟨ss,1,none⟩=some (.int .u64 u)∧y.cell? ⟨w.heap.size,1,none⟩=some (.int .u64 x.it.key)∧y.cell? ⟨w.heap.size,2,none⟩=some (.slice pr NN cr)∧y.cell? ⟨w.heap.size,3,none⟩=some (.slice x.it.tag.a x.it.tag.xs.length x.it.tag.c)):=Ξ fun y hy=>by have s:=S3.out.only hy NF.out.1;have b:=R3.out.only hy NF.out.2.1;exact ⟨s.cell 0,s.cell 1,b.cell 1,b.cell 2,b.cell 3⟩
 have SOK:Hid (∀ y,Only ((w.heap.size+1) :: F) w3 y→y.cell? ⟨ss,0,none⟩=some (.iface 24 (.pointer (some ⟨p,0,none⟩)))∧y.cell? ⟨ss,1,none⟩=some (.int .u64 u)∧y.cell? ⟨w.heap.size,1,none⟩=some (.int .u64 x.it.key)∧y.cell? ⟨w.heap.size,2,none⟩=some (.slice pr NN cr)∧y.cell? ⟨w.heap.size,3,none⟩=some (.slice x.it.tag.a x.it.tag.xs.length x.it.tag.c)):=Ξ fun y hy=>by have s:=S3.out.only hy (by have h:=NF.out;simp;exact ⟨by omega,h.1⟩);have b:=R3.out.only hy (by simp;exact NF.out.2.1);exact ⟨s.cell 0,s.cell 1,b.cell 1,b.cell 2,b.cell 3⟩
 have Z3:Hid (W1.heap.size≤w3.heap.size):=Ξ Y3.out.size;have CLV:Hid (∀ y,Only [] w y→SlRd .i32 y sv→Calls prog 234 #[.pointer (some ⟨p,0,none⟩),.int .u64 u,.agg #[.int .u64 x.it.key,.slice pr NN cr,.slice x.it.tag.a x.it.tag.xs.length x.it.tag.c]] y fun e y'=>e=.returned (.int .i64 eb)∧Only F y y'∧Lst (Own ss w.heap.size y.heap.size) Q y'):=Ξ fun y h1 h2=>by rw [SV.out.1];exact CL.out y sv h1 h2 SV.out.2.1
 have hk0:=SO.out w3.drew ((Ω _ w3).drew);go_region_held3 (fun y=>y.cell? ⟨ss,0,none⟩=some (.iface 24 (.pointer (some ⟨p,0,none⟩)))∧y.cell? ⟨ss,1,none⟩=some (.int .u64 u)∧y.cell? ⟨w.heap.size,1,none⟩=some (.int .u64 x.it.key)∧y.cell? ⟨w.heap.size,2,none⟩=some (.slice pr NN cr)∧y.cell? ⟨w.heap.size,3,none⟩=some (.slice x.it.tag.a x.it.tag.xs.length x.it.tag.c))
  (first
   | with_reducible exact hk0
   | with_reducible exact hk4
   | with_reducible exact hk5
   | exact SOK.out _ ((X5.out.mono (by intro i hi;left;exact List.mem_cons_of_mem _ hi)).trans (rowset9 R5.out).2 (by simp)))
  (first
   | (go_at_call 234;(with_reducible refine (CLV.out w3.drew K3.out.drew (V3.out _ ((Ω _ w3).drew))).mono ?_);rintro _ w4 ⟨rfl,ho,hq⟩;have X4:Hid (Only F w3 w4):=Ξ (((Ω [] w3).drew.mono (by simp)).trans ho (by intro i hi;left;exact hi));have hk4:=SO.out w4 X4.out;have Q4:Hid (Lst (Own ss w.heap.size w3.heap.size) Q w4):=Ξ hq;clear ho hq)
   | (go_at_call 187;(with_reducible refine (WR.out w4).mono ?_);rintro _ w5 ⟨rfl,hb⟩;have X5:=Ξ (X4.out.below hb);have hk5:=SO.out w5 X5.out;have Q5:=Ξ (Q4.out.below hb);have R5:=Ξ (RZ3.out.only X5.out NF.out.2.2.1);have q0:=R5.out.c 0 (.int .i64 0);have v0:=R5.out.free 0;have q1:=R5.out.c 1 (.int .i64 0);have v1:=R5.out.free 1;have q2:=R5.out.c 2 (.int .i64 0);have v2:=R5.out.free 2;have q3:=R5.out.c 3 (.int .i64 0);have v3:=R5.out.free 3;have q4:=R5.out.c 4 (.int .u64 0);have v4:=R5.out.free 4;have q5:=R5.out.c 5 (.slice none 0 0);have v5:=R5.out.free 5;have q6:=R5.out.c 6 (.slice none 0 0);have v6:=R5.out.free 6;have q7:=R5.out.c 7 (.slice none 0 0);have v7:=R5.out.free 7;have q8:=R5.out.c 8 (.slice none 0 0);have v8:=R5.out.free 8;clear hb)
   | fail)
 all_goals
  go_wp2_with fail;refine bodyPost_ret (results_rp_one rfl _ _ (w.heap.size+1) _ rfl rfl (rowset9 R5.out).1) rfl ?_;have nf:=NF.out;have z1:=Z1.out;have z3:=Z3.out;refine ⟨rfl,(S3.out.only X5.out nf.1).only (rowset9 R5.out).2 (by simp;omega),?_,Q5.out _ _ (rowset9 R5.out).2 (by intro b hb _;simp at hb;unfold Own;omega)⟩;exact ((K3.out.mono (by simp)).trans X5.out (by intro i hi;left;exact List.mem_cons_of_mem _ hi)).trans (rowset9 R5.out).2 (by intro i hi;right;simp at hi;omega)
theorem knnf_to{w:World}{ss p:Nat}{u m pl er:Int}{vs:List Int}{x:Rq}{F:List Nat}{Q:Array Value→World→Prop}  (hs:Row w ss #[baseV p,.int .u64 u] tSs)
  (qa:∀ y,Only [] w y→AllC 188 x.fl.v x.scale vs m pl er y) (her:er=0) (hv:vs.length≤4096) (hF:ss∉F) (hl:∀ b∈F,b<w.heap.size)
  (call:∀ (y:World) (v:Sl),Only [] w y→SlRd .i32 y v→v.xs=vs→Calls prog 146 #[.pointer (some ⟨ss,0,none⟩),.agg { x with q:=v }.cells] y (KnnCall ss #[baseV p,.int .u64 u] F w.heap.size Q y)) :
  Calls prog 151 #[.pointer (some ⟨ss,0,none⟩),.agg x.cells] w (fun e w'=>∃ R,MethTo ss #[baseV p,.int .u64 u] R F (Q R) w e w'):=by
 unfold AllC AllPost at qa;have QA:=Ξ qa;obtain ⟨W1,hW1,K1,RR,RB,S1,Z1,_⟩:=ses_pre (x:=x) (F:=[]) hs (by simp) (by simp);have FL:Hid (x.fl.v=.slice x.fl.a x.fl.xs.length x.fl.c):=Ξ rfl;have l8:=RB.out.c 8 (.slice x.fl.a x.fl.xs.length x.fl.c);have l9:=RB.out.c 9 (.int .i64 x.scale);rw [hW1] at l8 l9;unfold Rq.cells KnnCall MethTo at call;have CL:=Ξ call;have HV:=Ξ hv;have NFL:Hid (∀ b∈F,b<w.heap.size):=Ξ hl;have NF:Hid (ss∉F∧w.heap.size∉F∧w.heap.size+1∉F∧ss<w.heap.size):=Ξ ⟨hF,fun h=>by have:=hl _ h;omega,fun h=>by have:=hl _ h;omega,hs.lt⟩;subst her;clear call hv hF hl;clear qa hs;unfold Rq.cells Sl.v zeroRp baseV at *;go_enter func151,ntmps151;go_wp2_with fail;rw [←hW1];clear hW1 l8 l9;refine (QA.out W1 K1.out).mono ?_;rintro _ w2 ⟨r,rfl,hr,hb2⟩;have HR:=Ξ hr;have B2:=Ξ hb2;have R2:=Ξ (RR.out.only ((Ω [] _).below hb2) (by simp));have RB2:=Ξ (RB.out.only ((Ω [] _).below hb2) (by simp));obtain ⟨pr,cr,rfl,_⟩:=own_shape hr;obtain ⟨sv,hsv,hsx,hsr,hsb⟩:∃ s:Sl,Value.slice pr vs.length cr=s.v∧s.xs=vs∧SlAt .i32 w2 s∧∀ b∈s.bs,W1.heap.size≤b:=by obtain ⟨s,h1,h2,h3,h4⟩:=SlAt.of_own hr (by have:=HV.out;omega);exact ⟨s,h1,h2,h3,fun b hb=>(h4 b hb)⟩
 have SV:=Ξ (Ψ hsv (Ψ hsx (Ψ hsr hsb)));clear hr hb2 hsv hsx hsr hsb;generalize hNN:vs.length=NN at *;have HNN:=Ξ hNN;clear hNN;have f7:=RB2.out.free 7;have z7:=RB2.out.cell 7;simp only [List.getElem?_toArray,List.getElem?_cons_zero,List.getElem?_cons_succ] at z7;have R3:Hid (Row (w2.setCell ⟨w.heap.size,7,none⟩ (.slice pr NN cr)) w.heap.size #[.int .i64 x.kind,.int .u64 x.it.key,.slice x.it.vec.a x.it.vec.xs.length x.it.vec.c,.slice x.it.tag.a x.it.tag.xs.length x.it.tag.c,.int .u64 x.key,.int .u64 x.hi,.int .i64 x.n,.slice pr NN cr,.slice x.fl.a x.fl.xs.length x.fl.c,.int .i64 x.scale] tRq):=Ξ (by simpa using RB2.out.set 7 (.slice pr NN cr));have X3:Hid (Only [w.heap.size] w2 (w2.setCell ⟨w.heap.size,7,none⟩ (.slice pr NN cr))):=Ξ ((Ω [w.heap.size] w2).setCell (.inl (by simp)) _);go_upto_region 5 with fail;generalize w2.setCell ⟨w.heap.size,7,none⟩ (.slice pr NN cr)=w3 at *;clear z7 f7;have Y3:Hid (Only [w.heap.size] W1 w3):=Ξ (((Ω [w.heap.size] W1).below B2.out).trans X3.out (by intro i hi;left;exact hi));have K3:Hid (Only [] w w3):=Ξ (K1.out.trans Y3.out (by intro i hi;right;simp at hi;omega));have RZ3:=Ξ (RR.out.only Y3.out (by simp));have V3:Hid (SlRd .i32 w3 sv):=Ξ (by have h1:=SV.out.2.2.2;have z1:=Z1.out;exact (SV.out.2.2.1.only X3.out (by intro b hb;have:=h1 b hb;simp;omega)).rd)
 have Z3:Hid (W1.heap.size≤w3.heap.size):=Ξ Y3.out.size;have CLV:Hid (Calls prog 146 #[.pointer (some ⟨ss,0,none⟩),.agg #[.int .i64 x.kind,.int .u64 x.it.key,.slice x.it.vec.a x.it.vec.xs.length x.it.vec.c,.slice x.it.tag.a x.it.tag.xs.length x.it.tag.c,.int .u64 x.key,.int .u64 x.hi,.int .i64 x.n,.slice pr NN cr,.slice x.fl.a x.fl.xs.length x.fl.c,.int .i64 x.scale]] w3 fun e y'=>∃ (c0 c1 c2 c3:Int) (a:Option Addr) (n c:Nat),e=.returned (.agg (hitR c0 c1 c2 c3 a n c))∧Row y' ss #[.iface 24 (.pointer (some ⟨p,0,none⟩)),.int .u64 u] tSs∧Only (ss :: F) w3 y'∧Lst (Own ss w.heap.size w3.heap.size) (Q (hitR c0 c1 c2 c3 a n c)) y'):=Ξ (by have h:=CL.out w3 sv K3.out V3.out SV.out.2.1;have e:Value.slice sv.a sv.xs.length sv.c=.slice pr NN cr:=SV.out.1.symm;rw [e] at h;exact h)
 obtain ⟨p0,p1,p2,p3,p4,p5,p6,p7,p8,p9⟩:=R3.out.cs10;go_wp2_with fail;refine CLV.out.mono ?_;rintro _ w5 ⟨c0,c1,c2,c3,a,n,c,rfl,h1,ho,hq⟩;have X5:=Ξ ho;have S5:=Ξ h1;have Q5:=Ξ hq;have R5:=Ξ (RZ3.out.only X5.out (by have:=NF.out;simp;exact ⟨by omega,this.2.2.1⟩));clear p0 p1 p2 p3 p4 p5 p6 p7 p8 p9 h1 ho hq;obtain ⟨q0,q1,q2,q3,q4,q5,q6,q7,q8⟩:=R5.out.cs9;obtain ⟨v0,v1,v2,v3,v4,v5,v6,v7,v8⟩:=R5.out.fs9;go_wp2_with fail;refine bodyPost_ret (results_rp_one rfl _ _ (w.heap.size+1) _ rfl rfl (rowset9 R5.out).1) rfl ?_;refine ⟨hitR c0 c1 c2 c3 a n c,?_⟩;unfold MethTo;have nf:=NF.out;have z1:=Z1.out;have z3:=Z3.out;refine ⟨rfl,S5.out.only (rowset9 R5.out).2 (by simp;omega),?_,Q5.out _ _ (rowset9 R5.out).2 (by intro b hb _;simp at hb;unfold Own;omega)⟩;exact ((K3.out.mono (by simp)).trans X5.out (by intro i hi;left;exact hi)).trans (rowset9 R5.out).2 (by intro i hi;right;simp at hi;omega)
def Tells(R:Array Value)(zs:List Int)(w:World):Prop:=∀ y,Below w.heap.size w y→Calls prog 35 #[.agg R] y (AskTo zs y)
theorem tells_done(m:Int)(h0:0≤m)(h1:m≤7)(w:World):Tells (repC 1 m 0 0) [1,m] w:=fun y _=>tell_done m h0 h1 y
theorem tells_ref(e pl:Int)(e0:1≤e)(e1:e≤255)(p0:0≤pl)(p1:pl<4096)(w:World):Tells (repC 2 0 e pl) (refB e pl) w:=fun y _=>tell_refused e pl y e0 e1 p0 p1
theorem tells_item{it:Rc3}{w:World}(h:it.At w)(hok:it.Ok):Tells (gotC it) (gotB it.c) w:=fun y hy=>tell_item y (h.below hy) hok
theorem tells_items{a:Option Addr}{n c:Nat}{its:List Rc3}{w:World}(hi:ItR w a its)(hn:its.length=n)(h50:n≤50)(hok:∀ x∈its,x.Ok):Tells (itsC a n c) (itemsB (its.map Rc3.c)) w:=fun y hy=>by have h:=tell_items (c:=c) y (hi.below hy) hn h50 hok;unfold itemsB;rw [List.length_map,hn,List.flatMap_map];exact h
theorem tells_hits{a:Option Addr}{n c:Nat}{hs:List (Int×Int)}{w:World}(hi:HtR w a hs)(hn:hs.length=n)(h50:n≤50)(hok:∀ x∈hs,0≤x.2∧x.2<9223372036854775808∧0≤x.1∧x.1<18446744073709551616):Tells (htsC a n c) (hitsB hs) w:=fun y hy=>by have h:=tell_hits (c:=c) y (hi.below hy) hn h50 hok;unfold hitsB;rw [hn];exact h
/-! ### rows of what the DB gives -/
def It.rc(x:It):Rc3:=⟨x.key,x.vec,x.tag⟩
theorem RdAt.only{G:List Nat}{w w':World}{B:Nat}{a:Option Addr}{its:List It}(h:RdAt w B a its)(k:Only G w w')(hG:∀ b∈G,b<w.heap.size→b<B):RdAt w' B a its:=by
 have no:∀ b,B≤b→b<w.heap.size→b∉G:=fun b h1 h2 h3=>by have:=hG b h3 h2;omega
 refine ⟨?_,fun x hx=>⟨(h.each x hx).1.only k fun b hb=>no b (h.ge x hx b (List.mem_append_left _ hb)) ((h.each x hx).1.lt b hb),(h.each x hx).2.only k fun b hb=>no b (h.ge x hx b (List.mem_append_right _ hb)) ((h.each x hx).2.lt b hb)⟩,h.ge⟩;rcases h.row with h1|⟨g,h1,h2,h3,h4,h5⟩
 ·exact .inl h1
 ·exact .inr ⟨g,h1,Nat.lt_of_lt_of_le h2 k.size,h3,fun j x hx i hi=>by rw [k.cell h2 (no g h3 h2)];exact h4 j x hx i hi,h5⟩
theorem RdAt.itr{w:World}{B:Nat}{a:Option Addr}{its:List It}(h:RdAt w B a its)(hl:its.length≤100000)(hb:∀ x∈its,IsBy x.tag.xs):ItR w a (its.map It.rc):=by
 refine ⟨by simpa using hl,fun j x hx=>?_⟩;rw [List.getElem?_map,Option.map_eq_some_iff] at hx;obtain ⟨y,hy,rfl⟩:=hx;have hm:=List.mem_of_getElem? hy;refine ⟨⟨(h.each y hm).1.rd,(h.each y hm).2.rd,hb y hm⟩,?_⟩;rcases h.row with h1|⟨g,h1,h2,h3,h4,h5⟩
 ·rw [h1] at hm;simp at hm
 ·exact ⟨g,0,h1,h2,by rw [Nat.zero_add];exact h4 j y hy 0 (by omega),by rw [Nat.zero_add];exact h4 j y hy 1 (by omega),by rw [Nat.zero_add];exact h4 j y hy 2 (by omega)⟩
theorem htr_of_own{w:World}{B n:Nat}{a:Option Addr}{c:Nat}{hs:List (Int×Int)}(h:w.ownsRow B tHitK 2 (.slice a n c) hs.length (vc.hc hs))(hl:hs.length≤100000):HtR w a hs:=by
 refine ⟨hl,fun j x hx=>?_⟩;have hj:=(List.getElem?_eq_some_iff.1 hx).1;rcases vc.hits_of_own h with ⟨h1,_⟩|⟨b,off,cap,hv,hc⟩
 ·rw [h1] at hj;simp at hj
 ·simp only [Value.slice.injEq] at hv;have:=hc j hj;rw [hx] at this;have hb:=World.block_lt_of_cell? w _ this.1;exact ⟨b,off,hv.1,hb,this.1,this.2⟩
/-! ### quant.All -/
theorem allG_ends(k:Int)(l:List Nat)(k1 : -64≤k)(k2:k≤64)(h0:0<l.length)(h1:l.length≤4096):AllEnds k l (allG k l).1 (allG k l).2.1 (allG k l).2.2.1 (allG k l).2.2.2:=by
 refine ⟨fun ho=>?_,fun i hi ho hb=>?_⟩
 ·unfold allG;rw [if_neg (by omega),if_neg (by omega),firstBad_none ho];exact ⟨rfl,rfl,rfl,rfl⟩
 ·unfold allG;rw [if_neg (by omega),if_neg (by omega),firstBad_some hi ho hb];exact ⟨rfl,rfl,rfl,rfl⟩
theorem nats_toNat{xs:List Int}(h:∀ z∈xs,0≤z):nats (xs.map Int.toNat)=xs:=by
 unfold nats;rw [List.map_map];conv=>rhs;rw [←List.map_id xs]
 exact List.map_congr_left fun z hz=>by have:=h z hz;simp [Int.toNat_of_nonneg this]
theorem quant_on{s:Sl}{k:Int}{w:World}(h:SlRd .u64 w s)(hr:∀ z∈s.xs,0≤z∧z<18446744073709551616)(hl:s.xs.length≤4096) :
  AllC 188 s.v k (allG k (s.xs.map Int.toNat)).1 (allG k (s.xs.map Int.toNat)).2.1 (allG k (s.xs.map Int.toNat)).2.2.1 (allG k (s.xs.map Int.toNat)).2.2.2 w:=by
 by_cases hk:k < -64∨64<k
 ·have e:allG k (s.xs.map Int.toNat)=([],0,0,2):=by unfold allG;rw [if_pos hk]
  rw [e];exact all_scale _ k w hk
 by_cases h0:s.xs.length=0
 ·have e:allG k (s.xs.map Int.toNat)=([],0,0,9):=by unfold allG;rw [if_neg hk,if_pos (by simp [List.length_eq_zero_iff.1 h0])]
  rw [e];exact all_dim s.a s.xs.length s.c k w (by omega) (by omega) (.inl h0) (by omega)
 have hi:Ints .u64 w s.v (nats (s.xs.map Int.toNat)):=by rw [nats_toNat fun z hz=>(hr z hz).1];exact h.ints
 obtain ⟨b,off,cap,hv,hcell⟩:=hi.shape (by rw [nats_toNat fun z hz=>(hr z hz).1];omega);have hnl:(nats (s.xs.map Int.toNat)).length=s.xs.length:=by rw [nats_toNat fun z hz=>(hr z hz).1]
 rw [hnl] at hv hcell;rw [hv];have hbw:=World.block_lt_of_cell? w _ (hcell 0 (by omega));refine all_go b off cap s.xs.length k (s.xs.map Int.toNat) _ _ _ _ w ?_ (by simp) hcell hbw (by omega) (by omega) (by omega) (by omega) (Ξ (allG_ends k _ (by omega) (by omega) (by simp;omega) (by simpa using hl)));intro x hx;obtain ⟨z,hz,rfl⟩:=List.mem_map.1 hx;have:=hr z hz;omega
/-! ### the DB's calls -/
structure Cx(t:Nat)(B p ss:Nat)(D:PDB)(u:Int)(F H:List Nat)(w:World):Prop where
 db:DbF w B p D F H
 base:B≤w.heap.size
 good:Good t D
 lim:t<300000
 row:Row w ss #[baseV p,.int .u64 u] tSs
 ap:ss∉F∧ss∉H
def Kp(F F':List Nat)(n:Nat):Prop:=∀ b∈F',b∈F∨n≤b
theorem Kp.refl(F:List Nat)(n:Nat):Kp F F n:=fun b hb=>.inl hb
theorem Kp.of{F F':List Nat}{n:Nat}{y:World}(h:Kept F F' y)(hn:n≤y.heap.size):Kp F F' n:=fun b hb=>(h b hb).imp id fun h=>Nat.le_trans hn h
def QQ(t B p ss:Nat)(D:PDB)(u:Int)(c:Qc)(F H:List Nat)(n0 n1:Nat)(R:Array Value)(u':Int)(z:World):Prop:=∃ zs D' F' H',DoQ D u c zs D' u'∧Good (t+1) D'∧Kp F F' n0∧Kp H H' n0∧Lst (Own ss n0 n1) (fun z=>DbF z B p D' F' H'∧Tells R zs z) z
def QOut(t B p:Nat)(D:PDB)(u:Int)(c:Qc)(F H:List Nat)(n0:Nat)(r:R9)(u':Int)(J:World→Prop):Prop:=∃ zs D' F' H',DoQ D u c zs D' u'∧Good (t+1) D'∧Kp F F' n0∧Kp H H' n0∧J=fun z=>DbF z B p D' F' H'∧Tells r.cells zs z
theorem meth_out{t B p ss:Nat}{D:PDB}{u u':Int}{c:Qc}{F H:List Nat}{n0:Nat}{y y':World}{e:Ending}(r:R9)(hr:r.e≠6)(h:MethTo ss #[baseV p,.int .u64 u'] r.cells F (QQ t B p ss D u c F H n0 y.heap.size r.cells u') y e y'):MOut ss p F n0 (QOut t B p D u c F H n0) y e y':=by obtain ⟨h1,h2,h3,zs,D',F',H',h4,h5,h6,h7,h8⟩:=h;exact ⟨r,u',_,h1,hr,h2,h3,h8,zs,D',F',H',h4,h5,h6,h7,rfl⟩
section
variable {t B p ss:Nat} {D:PDB} {u:Int} {F H:List Nat} {w0:World}
theorem Cx.lt(C:Cx t B p ss D u F H w0):(∀ b∈F,b<w0.heap.size)∧(∀ b∈H,b<w0.heap.size)∧ss<w0.heap.size:=⟨C.db.lt.1,C.db.lt.2,C.row.lt⟩
theorem Cx.at_(C:Cx t B p ss D u F H w0){y:World}(k:Only [] w0 y):DbF y B p D F H:=C.db.only k (by simp)
theorem db_lst(C:Cx t B p ss D u F H w0){y y':World}{D':PDB}{F' H':List Nat}(hy:w0.heap.size≤y.heap.size)(hd:DbF y' B p D' F' H')(kF:Kept F F' y)(kH:Kept H H' y):Lst (Own ss w0.heap.size y.heap.size) (fun z=>DbF z B p D' F' H') y':=fun z G k hG=>by
 obtain ⟨l1,l2,l3⟩:=C.lt;refine hd.only (G:=G.filter fun b=>decide (b<y'.heap.size)) (k.mono fun i hi=>?_) fun b hb=>?_
 ·by_cases h:i<y'.heap.size
  ·exact .inl (List.mem_filter.2 ⟨hi,by simpa using h⟩)
  ·exact .inr (by omega)
 ·obtain ⟨hb1,hb2⟩:=List.mem_filter.1 hb;have ho:=hG b hb1 (by simpa using hb2);unfold Own at ho;refine ⟨fun hm=>?_,fun hm=>?_⟩
  ·rcases kF b hm with h1|h1
   ·have:=l1 b h1;rcases ho with rfl|ho
    ·exact C.ap.1 h1
    ·omega
   ·omega
  ·rcases kH b hm with h1|h1
   ·have:=l2 b h1;rcases ho with rfl|ho
    ·exact C.ap.2 h1
    ·omega
   ·omega
theorem cl_mk(C:Cx t B p ss D u F H w0){y0 y y':World}{c:Qc}{R:Array Value}{zs:List Int}{u':Int}{D':PDB}{F' H':List Nat}{v:Value}{e:Ending}(h0:w0.heap.size≤y0.heap.size)(hy:y0.heap.size≤y.heap.size)(he:e=.returned v)(ho:Only F y y')(hd:DbF y' B p D' F' H')(kF:Kept F F' y)(kH:Kept H H' y)
  (hq:DoQ D u c zs D' u') (hg:Good (t+1) D') (hT:Lst (Own ss w0.heap.size y.heap.size) (Tells R zs) y'):CallTo ss v F y0.heap.size (QQ t B p ss D u c F H w0.heap.size y0.heap.size R u') y e y':=by
 have h1:=Lst.and (db_lst C (Nat.le_trans h0 hy) hd kF kH) hT;have h2:=h1.nest (P1:=Own ss y0.heap.size y.heap.size) (P2:=Own ss w0.heap.size y0.heap.size) (fun b hb=>hb.mono h0 (Θ _)) (fun b hb=>hb.mono (Θ _) hy);exact ⟨he,ho,fun z G k hG=>⟨zs,D',F',H',hq,hg,Kp.of kF (Nat.le_trans h0 hy),Kp.of kH (Nat.le_trans h0 hy),h2 z G k hG⟩⟩
theorem cl_still(C:Cx t B p ss D u F H w0){y0 y y':World}{c:Qc}{R:Array Value}{zs:List Int}{u':Int}{v:Value}{e:Ending}(h0:w0.heap.size≤y0.heap.size)(k:Only [] w0 y)(hy:y0.heap.size≤y.heap.size)(he:e=.returned v)(hb:Below y.heap.size y y')
  (hq:DoQ D u c zs D u') (hT:Lst (Own ss w0.heap.size y.heap.size) (Tells R zs) y'):CallTo ss v F y0.heap.size (QQ t B p ss D u c F H w0.heap.size y0.heap.size R u') y e y':=
 cl_mk C h0 hy he ((Ω F y).below hb) ((C.at_ k).only ((Ω [] y).below hb) (by simp)) (Kept.refl _ _) (Kept.refl _ _) hq (C.good.mono (by omega)) hT
end
theorem shape_put{w:World}{x:Rq}(h:x.Shape w)(hk:x.kind=2):SlRd .i32 w x.it.vec∧(∀ z∈x.it.vec.xs,-2147483648≤z∧z<2147483648)∧SlRd .u8 w x.it.tag∧IsBy x.it.tag.xs∧x.it.tag.xs.length≤1024∧0≤x.it.key∧x.it.key<18446744073709551616:=by
 cases h with
 | bare k h0 h1 h=>have:k=2:=hk;omega
 | put key vec tag k0 k1 hv vr ht hb h=>exact ⟨hv,vr,ht,hb,by show tag.xs.length≤1024;omega,k0,k1⟩
 | key k key h k0 k1=>have:k=2:=hk;omega
 | range=>cases hk
 | knn=>cases hk
 | putf=>cases hk
 | knnf=>cases hk
theorem shape_n{w:World}{x:Rq}(h:x.Shape w):0≤x.n∧x.n<256:=by
 cases h with
 | bare=>exact (show (0:Int)≤0∧(0:Int)<256 from by decide)
 | key=>exact (show (0:Int)≤0∧(0:Int)<256 from by decide)
 | put=>exact (show (0:Int)≤0∧(0:Int)<256 from by decide)
 | range key hi n k0 k1 h0 h1 n0 n1=>exact ⟨n0,n1⟩
 | knn n q n0 n1=>exact ⟨n0,n1⟩
 | putf=>exact (show (0:Int)≤0∧(0:Int)<256 from by decide)
 | knnf n sc fl n0 n1=>exact ⟨n0,n1⟩
theorem shape_q{w:World}{x:Rq}(h:x.Shape w):SlRd .i32 w x.q∧(∀ z∈x.q.xs,-2147483648≤z∧z<2147483648):=by
 cases h with
 | knn n q n0 n1 hq qr q4=>exact ⟨hq,qr⟩
 | bare=>exact ⟨SlRd.no _ _,by simp [Rq.bare,Sl.no]⟩
 | key=>exact ⟨SlRd.no _ _,by simp [Sl.no]⟩
 | put=>exact ⟨SlRd.no _ _,by simp [Sl.no]⟩
 | range=>exact ⟨SlRd.no _ _,by simp [Sl.no]⟩
 | putf=>exact ⟨SlRd.no _ _,by simp [Sl.no]⟩
 | knnf=>exact ⟨SlRd.no _ _,by simp [Sl.no]⟩
theorem shape_fl{w:World}{x:Rq}(h:x.Shape w):SlRd .u64 w x.fl∧(∀ z∈x.fl.xs,0≤z∧z<18446744073709551616)∧x.fl.xs.length≤4096:=by
 cases h with
 | putf key sc tag fl k0 k1 s0 s1 ht hb t1 hf fr f4=>exact ⟨hf,fr,f4⟩
 | knnf n sc fl n0 n1 s0 s1 hf fr f4=>exact ⟨hf,fr,f4⟩
 | knn=>exact ⟨SlRd.no _ _,by simp [Sl.no],by simp [Sl.no]⟩
 | bare=>exact ⟨SlRd.no _ _,by simp [Rq.bare,Sl.no],by simp [Rq.bare,Sl.no]⟩
 | key=>exact ⟨SlRd.no _ _,by simp [Sl.no],by simp [Sl.no]⟩
 | put=>exact ⟨SlRd.no _ _,by simp [Sl.no],by simp [Sl.no]⟩
 | range=>exact ⟨SlRd.no _ _,by simp [Sl.no],by simp [Sl.no]⟩
theorem shape_putf{w:World}{x:Rq}(h:x.Shape w)(hk:x.kind=10):SlRd .u8 w x.it.tag∧IsBy x.it.tag.xs∧x.it.tag.xs.length≤1024∧0≤x.it.key∧x.it.key<18446744073709551616:=by
 cases h with
 | putf key sc tag fl k0 k1 s0 s1 ht hb t1 hf fr f4=>exact ⟨ht,hb,t1,k0,k1⟩
 | bare k h0 h1 h=>have:k=10:=hk;omega
 | put=>cases hk
 | key k key h k0 k1=>have:k=10:=hk;omega
 | range=>cases hk
 | knn=>cases hk
 | knnf=>cases hk
section
variable {t B p ss:Nat} {D:PDB} {u:Int} {F H:List Nat} {w0 y0:World} {x:Rq}
theorem Cx.hl(C:Cx t B p ss D u F H w0)(k:Only [] w0 y0):∀ b∈F,b<y0.heap.size:=fun b hb=>Nat.lt_of_lt_of_le (C.lt.1 b hb) k.size
theorem Cx.sm(C:Cx t B p ss D u F H w0){w:World}{ba bo:Nat}(h:DbAt w B p ba bo D):Small D:=C.good.small (by have:=C.lim;omega) h
theorem RcGd.ver{dim key:Int}{v:Ver}{vec tag:List Int}(hv:vK v=(0,false,key,vec,tag))(hd:(vec.length:Int)=dim)(h32:∀ z∈vec,-2147483648≤z∧z<2147483648)(ht:tag.length≤1024)(hb:IsBy tag)(k0:0≤key)(k1:key<18446744073709551616):VerGd dim key v:=fun _=>by unfold vK at hv;simp only [Prod.mk.injEq] at hv;obtain ⟨_,_,e1,e2,e3⟩:=hv;rw [e1,e2,e3];exact ⟨rfl,hd,in32_of h32,ht,hb,k0,k1⟩
def PutB(D:PDB)(F H:List Nat)(B p:Nat)(u ik:Int)(vec tag:List Int)(er:Int)(y:World)(e:Ending)(y':World):Prop:=∃ D' H',e=.returned (.int .i64 er)∧(∀ m,PutS D u ik vec tag m (if er=0 then [1,m] else refB er 0) D')∧DbF y' B p D' F H'∧Only F y y'∧Kept H H' y∧(D'=D∨∃ v:Ver,vK v=(0,false,ik,vec,tag)∧(vec.length:Int)=D.dim∧D'=wroteP D u ik v)
theorem put_base(C:Cx t B p ss D u F H w0)(ik:Int)(vec tag:List Int)(ht:tag.length≤1024)(hv:vec.length≤1000000):∃ er:Int,(er=0∨er=9∨er=12)∧∀ (y:World) (va ta:Sl),Only [] w0 y→SlRd .i32 y va→SlRd .u8 y ta→va.xs=vec→ta.xs=tag →
  Calls prog 234 #[.pointer (some ⟨p,0,none⟩),.int .u64 u,.agg #[.int .u64 ik,va.v,ta.v]] y (PutB D F H B p u ik vec tag er y):=by
 cases ho:findP u D.op with
 | none=>
  refine ⟨12,by omega,fun y va ta k h1 h2 e1 e2=>?_⟩;obtain ⟨ba,bo,hd,_,_⟩:=C.at_ k;exact (put_no hd ho ik _ _).mono fun e y' ⟨he,hb⟩=>⟨D,H,he,fun m=>.inl ⟨ho,rfl,rfl⟩,(C.at_ k).only ((Ω [] y).below hb) (by simp),(Ω F y).below hb,Kept.refl _ _,.inl rfl⟩
 | some o=>
  by_cases hd:(vec.length:Int)=D.dim
  ·refine ⟨0,by omega,fun y va ta k h1 h2 e1 e2=>?_⟩;refine (put_on (C.at_ k) (Nat.le_trans C.base k.size) ho h1 h2 (by rw [e1];exact hd) (by rw [e2];exact ht)).mono fun e y' ⟨v,H',he,v1,v2,v3,v4,v5,hD,hO,hK⟩=>?_;have hvk:vK v=(0,false,ik,vec,tag):=by unfold vK;rw [v1,v2,v3,v4,v5,e1,e2]
   exact ⟨_,H',he,fun m=>.inr ⟨o,ho,.inr ⟨hd,rfl,v,hvk,rfl⟩⟩,hD,hO,hK,.inr ⟨v,hvk,hd,rfl⟩⟩
  ·refine ⟨9,by omega,fun y va ta k h1 h2 e1 e2=>?_⟩;obtain ⟨ba,bo,hdb,_,_⟩:=C.at_ k;exact (put_bad hdb ho (by rw [e1];exact hv) 9 (.inl ⟨by rw [e1];exact hd,rfl⟩)).mono fun e y' ⟨he,hb⟩=>⟨D,H,he,fun m=>.inr ⟨o,ho,.inl ⟨hd,rfl,rfl⟩⟩,(C.at_ k).only ((Ω [] y).below hb) (by simp),(Ω F y).below hb,Kept.refl _ _,.inl rfl⟩
theorem put_good(C:Cx t B p ss D u F H w0){ik:Int}{vec tag:List Int}{D':PDB}(h:D'=D∨∃ v:Ver,vK v=(0,false,ik,vec,tag)∧(vec.length:Int)=D.dim∧D'=wroteP D u ik v)(h32:∀ z∈vec,-2147483648≤z∧z<2147483648)(ht:tag.length≤1024)(hb:IsBy tag)(k0:0≤ik)(k1:ik<18446744073709551616):Good (t+1) D':=by
 rcases h with rfl|⟨v,h1,h2,rfl⟩
 ·exact C.good.mono (by omega)
 ·exact C.good.wrote u ik (RcGd.ver h1 h2 h32 ht hb k0 k1)
theorem kd_put(C:Cx t B p ss D u F H w0)(k0:Only [] w0 y0)(hx:x.Shape y0)(hk:x.kind=2):Calls prog 142 #[.pointer (some ⟨ss,0,none⟩),.agg x.cells] y0 (MOut ss p F w0.heap.size (QOut t B p D u x.c F H w0.heap.size) y0):=by
 obtain ⟨hv,hvr,ht,hby,ht1,kk0,kk1⟩:=shape_put hx hk;have hs:=C.row.only k0 (by simp);obtain ⟨er,her,hb⟩:=put_base C x.it.key x.it.vec.xs x.it.tag.xs ht1 hv.le;have Q1:∀ zs D',PutS D u x.it.key x.it.vec.xs x.it.tag.xs 0 zs D'→DoQ D u x.c zs D' u:=fun zs D' h=>by unfold DoQ;rw [if_neg (by show ¬ x.kind=1;omega),if_pos (by show x.kind=2;exact hk)];exact ⟨h,rfl⟩
 have call:∀ (R:Array Value),(∀ z,Tells R (if er=0 then [1,0] else refB er 0) z)→∀ y,Only [] y0 y→Calls prog 234 #[.pointer (some ⟨p,0,none⟩),.int .u64 u,.agg #[.int .u64 x.it.key,.slice x.it.vec.a x.it.vec.xs.length x.it.vec.c,.slice x.it.tag.a x.it.tag.xs.length x.it.tag.c]] y (CallTo ss (.int .i64 er) F y0.heap.size (QQ t B p ss D u x.c F H w0.heap.size y0.heap.size R u) y):=fun R hR y k=>by refine (hb y x.it.vec x.it.tag (k0.trans k (by simp)) (hv.only k (by simp)) (ht.only k (by simp)) rfl rfl).mono fun e y' ⟨D',H',he,hp,hD,hO,hK,hg⟩=>?_;exact cl_mk C k0.size k.size he hO hD (Kept.refl _ _) hK (Q1 _ _ (hp 0)) (put_good C hg hvr ht1 hby kk0 kk1) fun z _ _ _=>hR z
 rcases her with rfl|h9
 ·exact (put_to hs C.ap.1 (C.hl k0) (call (repC 1 0 0 0) fun z=>tells_done 0 (by omega) (by omega) z) fun y=>wrote_ok ss 0 y).mono fun e w' h=>meth_out (R9.num 1 0 0 0) (by decide) h
 ·have hn:er≠0:=by omega
  rw [if_neg hn] at call;exact (put_to hs C.ap.1 (C.hl k0) (call (repC 2 0 er 0) fun z=>tells_ref er 0 (by omega) (by omega) (by omega) (by omega) z) fun y=>wrote_no ss er 0 hn (by omega) y).mono fun e w' h=>meth_out (R9.num 2 0 er 0) (by show er≠6;omega) h
theorem kd_delete(C:Cx t B p ss D u F H w0)(k0:Only [] w0 y0)(hx:x.Shape y0)(hk:x.kind=3):Calls prog 143 #[.pointer (some ⟨ss,0,none⟩),.agg x.cells] y0 (MOut ss p F w0.heap.size (QOut t B p D u x.c F H w0.heap.size) y0):=by
 have hs:=C.row.only k0 (by simp);have Q1:∀ zs D',DelS D u x.key zs D'→DoQ D u x.c zs D' u:=fun zs D' h=>by have e:x.c.kind=3:=hk;unfold DoQ;rw [e];exact ⟨h,rfl⟩
 cases ho:findP u D.op with
 | none=>
  refine (remove_to (er:=12) hs C.ap.1 (C.hl k0) (Q:=QQ t B p ss D u x.c F H w0.heap.size y0.heap.size (repC 2 0 12 0) u) (fun y k=>?_) fun y=>wrote_no ss 12 0 (by omega) (by omega) y).mono fun e w' h=>meth_out (R9.num 2 0 12 0) (by decide) h;obtain ⟨ba,bo,hd,_,_⟩:=C.at_ (k0.trans k (by simp));exact (delete_no hd ho x.key).mono fun e y' ⟨he,hb⟩=>by subst hb;exact cl_still C k0.size (k0.trans k (by simp)) k.size he (Δ _ _) (Q1 _ _ (.inl ⟨ho,rfl,rfl⟩)) fun z _ _ _=>tells_ref 12 0 (by omega) (by omega) (by omega) (by omega) z
 | some o=>
  cases hv:visC (seesR D o x.key) with
  | none=>
   refine (remove_to (er:=7) hs C.ap.1 (C.hl k0) (Q:=QQ t B p ss D u x.c F H w0.heap.size y0.heap.size (repC 2 0 7 0) u) (fun y k=>?_) fun y=>wrote_no ss 7 0 (by omega) (by omega) y).mono fun e w' h=>meth_out (R9.num 2 0 7 0) (by decide) h;obtain ⟨ba,bo,hd,_,_⟩:=C.at_ (k0.trans k (by simp));exact (delete_no_key hd (C.sm hd) ho hv).mono fun e y' ⟨he,hb⟩=>cl_still C k0.size (k0.trans k (by simp)) k.size he hb (Q1 _ _ (.inr ⟨o,ho,.inl ⟨hv,rfl,rfl⟩⟩)) fun z _ _ _=>tells_ref 7 0 (by omega) (by omega) (by omega) (by omega) z
  | some c=>
   refine (remove_to (er:=0) hs C.ap.1 (C.hl k0) (Q:=QQ t B p ss D u x.c F H w0.heap.size y0.heap.size (repC 1 0 0 0) u) (fun y k=>?_) fun y=>wrote_ok ss 0 y).mono fun e w' h=>meth_out (R9.num 1 0 0 0) (by decide) h;have hD:=C.at_ (k0.trans k (by simp));obtain ⟨ba,bo,hd,_,_⟩:=C.at_ (k0.trans k (by simp));refine (delete_key hD (Nat.le_trans C.base (k0.trans k (by simp)).size) (C.sm hd) ho hv).mono fun e y' ⟨F',H',he,hd2,hO,kF,kH⟩=>?_;exact cl_mk C k0.size k.size he hO hd2 kF kH (Q1 _ _ (.inr ⟨o,ho,.inr ⟨⟨c,hv⟩,rfl,rfl⟩⟩)) (C.good.wrote u x.key fun h=>by simp [goneV] at h) fun z _ _ _=>tells_done 0 (by omega) (by omega) z
theorem own_new(C:Cx t B p ss D u F H w0){y:World}(hy:w0.heap.size≤y.heap.size){b:Nat}(h:Own ss w0.heap.size y.heap.size b):b<y.heap.size:=by have:=C.lt.2.2;unfold Own at h;omega
theorem kd_get(C:Cx t B p ss D u F H w0)(k0:Only [] w0 y0)(hx:x.Shape y0)(hk:x.kind=4):Calls prog 144 #[.pointer (some ⟨ss,0,none⟩),.agg x.cells] y0 (MOut ss p F w0.heap.size (QOut t B p D u x.c F H w0.heap.size) y0):=by
 have hs:=C.row.only k0 (by simp);have Q1:∀ zs,GetS D u x.key zs→DoQ D u x.c zs D u:=fun zs h=>by have e:x.c.kind=4:=hk;unfold DoQ;rw [e];exact ⟨h,rfl,rfl⟩
 cases ho:findP u D.op with
 | none=>
  refine (get_ref (er:=12) (Q:=QQ t B p ss D u x.c F H w0.heap.size y0.heap.size (repC 2 0 12 0) u) (by omega) hs C.ap.1 (C.hl k0) (fun y k=>?_)).mono fun e w' h=>meth_out (R9.num 2 0 12 0) (by decide) h;obtain ⟨ba,bo,hd,_,_⟩:=C.at_ (k0.trans k (by simp));exact (get_no hd ho x.key).mono fun e y' ⟨he,hb⟩=>cl_still C k0.size (k0.trans k (by simp)) k.size he hb (Q1 _ (.inl ⟨ho,rfl⟩)) fun z _ _ _=>tells_ref 12 0 (by omega) (by omega) (by omega) (by omega) z
 | some o=>
  obtain ⟨hom,_⟩:=findP_some ho;have hlen:∀ {w:World} {ba bo:Nat},DbAt w B p ba bo D→(vsOf D.all x.key).vs.length≤1000000:=fun h=>by have:=(C.sm h).vers x.key;omega
  cases hv:visC (seesR D o x.key) with
  | none=>
   refine (get_ref (er:=7) (Q:=QQ t B p ss D u x.c F H w0.heap.size y0.heap.size (repC 2 0 7 0) u) (by omega) hs C.ap.1 (C.hl k0) (fun y k=>?_)).mono fun e w' h=>meth_out (R9.num 2 0 7 0) (by decide) h;obtain ⟨ba,bo,hd,_,_⟩:=C.at_ (k0.trans k (by simp));refine (get_on hd ho (hlen hd)).mono fun e y' h=>?_;have h2:e=.returned (.tuple #[.agg (itemV none),.int .i64 7])∧Below y.heap.size y y':=by
    unfold GetTo at h;cases hr:seesR D o x.key with
    | none=>rw [hr] at h;exact h
    | some v=>
     rw [hr] at h hv;simp only at h;cases hg:v.gone with
     | true=>rw [if_pos hg] at h;exact h
     | false=>simp [visC,hg] at hv
   exact cl_still C k0.size (k0.trans k (by simp)) k.size h2.1 h2.2 (Q1 _ (.inr ⟨o,ho,.inl ⟨hv,rfl⟩⟩)) fun z _ _ _=>tells_ref 7 0 (by omega) (by omega) (by omega) (by omega) z
  | some c=>
   have hgd:=C.good.seen hom hv;refine (get_to (Q:=fun it=>QQ t B p ss D u x.c F H w0.heap.size y0.heap.size (gotC it) u) hs C.ap.1 (C.hl k0) (fun y k=>?_)).mono fun e w' ⟨it,h⟩=>meth_out ⟨3,0,0,0,it.key,it.vec.a,it.vec.xs.length,it.vec.c,it.tag.a,it.tag.xs.length,it.tag.c,none,0,0,none,0,0⟩ (show (0:Int)≠6 from by decide) h;obtain ⟨ba,bo,hd,_,_⟩:=C.at_ (k0.trans k (by simp));refine (get_on hd ho (hlen hd)).mono fun e y' h=>?_;obtain ⟨v,hr,hg,rfl⟩:=visC_some hv;unfold GetTo at h;rw [hr] at h;simp only [hg,Bool.false_eq_true,if_false] at h;obtain ⟨va,ta,he,e1,e2,s1,s2,hnew,hb⟩:=h;have hy:w0.heap.size≤y.heap.size:=Nat.le_trans k0.size k.size;refine ⟨⟨v.key,va,ta⟩,cl_still C k0.size (k0.trans k (by simp)) k.size he hb (zs:=gotB (v.key,v.vec.xs,v.tag.xs)) (Q1 _ (.inr ⟨o,ho,.inr ⟨_,hv,rfl⟩⟩)) fun z G kG hG=>?_⟩;have no:∀ b,y.heap.size≤b→b<y'.heap.size→b∉G:=fun b h1 h2 h3=>by have:=own_new C hy (hG b h3 h2);omega
   have t1:SlAt .i32 z va:=s1.only kG fun b hb=>no b (hnew b (List.mem_append_left _ hb)) (s1.lt b hb);have t2:SlAt .u8 z ta:=s2.only kG fun b hb=>no b (hnew b (List.mem_append_right _ hb)) (s2.lt b hb);have l1:=hgd.len;have hdim:=C.good.dim;have e3:(v.key,v.vec.xs,v.tag.xs)=(⟨v.key,va,ta⟩:Rc3).c:=by unfold Rc3.c;rw [e1,e2]
   rw [e3];have hk1:v.key=x.key:=hgd.keyed;have hkey:0≤v.key∧v.key<18446744073709551616:=by rw [hk1];exact ⟨hgd.k0,hgd.k1⟩
   simp only at l1;refine tells_item ⟨t1.rd,t2.rd,by show IsBy ta.xs;rw [e2];exact hgd.by_⟩ ⟨?_,?_,?_,hkey.1,hkey.2⟩
   ·show 0<va.xs.length;rw [e1];omega
   ·show va.xs.length≤4096;rw [e1];omega
   ·show ta.xs.length≤1024;rw [e2];exact hgd.tag
theorem kd_scan(C:Cx t B p ss D u F H w0)(k0:Only [] w0 y0)(hx:x.Shape y0)(hk:x.kind=5)(h50:x.n≤50):Calls prog 145 #[.pointer (some ⟨ss,0,none⟩),.agg x.cells] y0 (MOut ss p F w0.heap.size (QOut t B p D u x.c F H w0.heap.size) y0):=by
 have hs:=C.row.only k0 (by simp);have hn:=shape_n hx;have Q1:∀ zs,ScanS D u x.key x.hi x.n zs→DoQ D u x.c zs D u:=fun zs h=>by have e:x.c.kind=5:=hk;unfold DoQ;rw [e];exact ⟨h,rfl,rfl⟩
 cases ho:findP u D.op with
 | none=>
  refine (scan_ref (er:=12) (Q:=QQ t B p ss D u x.c F H w0.heap.size y0.heap.size (repC 2 0 12 0) u) (by omega) hs C.ap.1 (C.hl k0) (fun y k=>?_)).mono fun e w' h=>meth_out (R9.num 2 0 12 0) (by decide) h;obtain ⟨ba,bo,hd,_,_⟩:=C.at_ (k0.trans k (by simp));exact (range_no hd ho x.key x.hi x.n).mono fun e y' ⟨he,hb⟩=>cl_still C k0.size (k0.trans k (by simp)) k.size he hb (Q1 _ (.inl ⟨ho,rfl⟩)) fun z _ _ _=>tells_ref 12 0 (by omega) (by omega) (by omega) (by omega) z
 | some o=>
  obtain ⟨hom,_⟩:=findP_some ho;refine (scan_to (Q:=fun a n c=>QQ t B p ss D u x.c F H w0.heap.size y0.heap.size (itsC a n c) u) hs C.ap.1 (C.hl k0) (fun y k=>?_)).mono fun e w' ⟨a,n,c,h⟩=>meth_out ⟨4,0,0,0,0,none,0,0,none,0,0,a,n,c,none,0,0⟩ (show (0:Int)≠6 from by decide) h;obtain ⟨ba,bo,hd,_,_⟩:=C.at_ (k0.trans k (by simp));refine (range_on hd (C.sm hd) ho x.key x.hi x.n (by omega) (by omega)).mono fun e y' ⟨zs,hz,hm,a,c,its,he,hrd,hc,hb⟩=>?_;have hL:=C.good.list hom hz hm;have hy:w0.heap.size≤y.heap.size:=Nat.le_trans k0.size k.size;have hl50:its.length≤50:=by have:=congrArg List.length hc;rw [List.length_map,List.length_take] at this;omega
  have hgd:∀ i∈its,RcGd D.dim i.c.1 i.c:=fun i hi=>by have h1:i.c∈its.map It.c:=List.mem_map.2 ⟨i,hi,rfl⟩;rw [hc] at h1;exact C.good.listed hom hL _ (List.mem_filter.1 (List.mem_of_mem_take h1)).1
  refine ⟨a,its.length,c,cl_still C k0.size (k0.trans k (by simp)) k.size he hb (zs:=itemsB (its.map It.c)) (Q1 _ (.inr ⟨o,ho,_,hL,by rw [hc]⟩)) fun z G kG hG=>?_⟩;have r2:=hrd.only kG fun b h1 h2=>own_new C hy (hG b h1 h2);have e3:its.map It.c=(its.map It.rc).map Rc3.c:=by rw [List.map_map];rfl
  rw [e3];refine tells_items (r2.itr (by omega) fun i hi=>(hgd i hi).by_) (by simp) hl50 fun i hi=>?_;obtain ⟨j,hj,rfl⟩:=List.mem_map.1 hi;have g:=hgd j hj;have l1:=g.len;have hdim:=C.good.dim;refine ⟨?_,?_,g.tag,g.k0,g.k1⟩
  ·show 0<j.vec.xs.length;have:(j.vec.xs.length:Int)=D.dim:=l1;omega
  ·show j.vec.xs.length≤4096;have:(j.vec.xs.length:Int)=D.dim:=l1;omega
end
section
variable {t B p ss:Nat} {D:PDB} {u:Int} {F H:List Nat} {w0 y0:World} {x:Rq}
def KnnNo(er:Int)(y:World)(e:Ending)(y':World):Prop:=e=.returned (.tuple #[.slice none 0 0,.int .i64 er])∧Below y.heap.size y y'
def KnnYes(ss n0:Nat)(zs:List Int)(y:World)(e:Ending)(y':World):Prop:=∃ (a:Option Addr) (m c:Nat),e=.returned (.tuple #[.slice a m c,.int .i64 0])∧Below y.heap.size y y'∧Lst (Own ss n0 y.heap.size) (Tells (htsC a m c) zs) y'
theorem hits_in{xs:List (Int×Int)}{n:Int}{h:Int×Int}(hm:h∈vc.firstF xs n):h∈xs:=(vc.sortH_perm xs).mem_iff.1 (List.mem_of_mem_take hm)
theorem knn_base(C:Cx t B p ss D u F H w0)(q:List Int)(n:Int)(n0:0≤n)(n1:n≤50)(hq:∀ z∈q,-2147483648≤z∧z<2147483648) :
  (∃ er:Int,(er=9∨er=12)∧KnnS D u q n (refB er 0)∧∀ (y:World) (qa:Sl),Only [] w0 y→SlRd .i32 y qa→qa.xs=q→Calls prog 233 #[.pointer (some ⟨p,0,none⟩),.int .u64 u,qa.v,.int .i64 n] y (KnnNo er y)) ∨
  (∀ (y:World) (qa:Sl),Only [] w0 y→SlRd .i32 y qa→qa.xs=q→Calls prog 233 #[.pointer (some ⟨p,0,none⟩),.int .u64 u,qa.v,.int .i64 n] y (fun e y'=>∃ zs,KnnS D u q n zs∧KnnYes ss w0.heap.size zs y e y')):=by
 cases ho:findP u D.op with
 | none=>
  refine .inl ⟨12,.inr rfl,.inl ⟨ho,rfl⟩,fun y qa k h1 e1=>?_⟩;obtain ⟨ba,bo,hd,_,_⟩:=C.at_ k;exact (knn_no hd ho n _).mono fun e y' ⟨he,hb⟩=>⟨he,by rw [hb];exact Δ _ _⟩
 | some o=>
  obtain ⟨hom,_⟩:=findP_some ho;by_cases hd:(q.length:Int)=D.dim
  ·refine .inr fun y qa k h1 e1=>?_;obtain ⟨ba,bo,hdb,_,_⟩:=C.at_ k;refine (knn_on hdb (C.sm hdb) ho h1 (by rw [e1];exact hd) (by rw [e1];exact in32_of hq) (fun kk c hc=>(C.good.seen hom hc).i32) n (by omega) (by omega)).mono fun e y' ⟨zs,hz,hm,v,he,_,hb,hown⟩=>?_;rw [e1] at hown;have hL:=C.good.list hom hz hm;generalize (zs.filterMap fun k=>visC (seesR D o k))=L at hL hown;obtain ⟨a,c,rfl,_⟩:=own_shape hown;refine ⟨hitsB (vc.firstF (L.map (hitC q)) n),.inr ⟨o,ho,.inr ⟨hd,L,hL,rfl⟩⟩,a,_,c,he,hb,fun z G kG hG=>?_⟩;have hn50:(vc.firstF (L.map (hitC q)) n).length≤50:=by rw [vc.firstF_len];unfold vc.askN;omega
   have hl:=hown.lt;have o2:z.ownsRow y.heap.size tHitK 2 (.slice a _ c) _ (vc.hc (vc.firstF (L.map (hitC q)) n)):=own_keep hown fun b hb2=>kG.block b (hl b hb2).2 fun hg=>by have:=own_new C k.size (hG b hg (hl b hb2).2);have:=(hl b hb2).1;omega
   refine tells_hits (htr_of_own o2 (by omega)) rfl hn50 fun h hh=>?_;obtain ⟨c2,hc2,rfl⟩:=List.mem_map.1 (hits_in hh);have g:=C.good.listed hom hL c2 hc2;have hk0:=g.k0;have hk1:=g.k1;have hdim:=C.good.dim;have hdist:0≤vc.distF c2.2.1 q∧vc.distF c2.2.1 q<9223372036854775808:=by
    unfold vc.distF;split
    ·have:=vc.distTo_bd c2.2.1 q g.i32 (in32_of hq) c2.2.1.length;omega
    ·omega
   exact ⟨hdist.1,hdist.2,hk0,hk1⟩
  ·refine .inl ⟨9,.inl rfl,.inr ⟨o,ho,.inl ⟨hd,rfl⟩⟩,fun y qa k h1 e1=>?_⟩;obtain ⟨ba,bo,hdb,_,_⟩:=C.at_ k;exact (knn_dim hdb ho h1.le (by rw [e1];exact hd) n).mono fun e y' ⟨he,hb⟩=>⟨he,by rw [hb];exact Δ _ _⟩
theorem kd_knn(C:Cx t B p ss D u F H w0)(k0:Only [] w0 y0)(hx:x.Shape y0)(hk:x.kind=6)(h50:x.n≤50):Calls prog 146 #[.pointer (some ⟨ss,0,none⟩),.agg x.cells] y0 (MOut ss p F w0.heap.size (QOut t B p D u x.c F H w0.heap.size) y0):=by
 have hs:=C.row.only k0 (by simp);have hn:=shape_n hx;obtain ⟨hq,hqr⟩:=shape_q hx;have Q1:∀ zs,KnnS D u x.q.xs x.n zs→DoQ D u x.c zs D u:=fun zs h=>by have e:x.c.kind=6:=hk;unfold DoQ;rw [e];exact ⟨h,rfl,rfl⟩
 rcases knn_base C x.q.xs x.n hn.1 h50 hqr with ⟨er,her,hS,hB⟩|hB
 ·refine (knn_ref (er:=er) (Q:=QQ t B p ss D u x.c F H w0.heap.size y0.heap.size (repC 2 0 er 0) u) (by omega) hs C.ap.1 (C.hl k0) (fun y k=>?_)).mono fun e w' h=>meth_out (R9.num 2 0 er 0) (show er≠6 by omega) h;exact (hB y x.q (k0.trans k (by simp)) (hq.only k (by simp)) rfl).mono fun e y' ⟨he,hb⟩=>cl_still C k0.size (k0.trans k (by simp)) k.size he hb (Q1 _ hS) fun z _ _ _=>tells_ref er 0 (by omega) (by omega) (by omega) (by omega) z
 ·refine (knn_to (Q:=fun a n c=>QQ t B p ss D u x.c F H w0.heap.size y0.heap.size (htsC a n c) u) hs C.ap.1 (C.hl k0) (fun y k=>?_)).mono fun e w' ⟨a,n,c,h⟩=>meth_out ⟨5,0,0,0,0,none,0,0,none,0,0,none,0,0,a,n,c⟩ (show (0:Int)≠6 from by decide) h;exact (hB y x.q (k0.trans k (by simp)) (hq.only k (by simp)) rfl).mono fun e y' ⟨zs,hS,a,m,c,he,hb,hT⟩=>⟨a,m,c,cl_still C k0.size (k0.trans k (by simp)) k.size he hb (Q1 _ hS) hT⟩
theorem kd_commit(C:Cx t B p ss D u F H w0)(k0:Only [] w0 y0)(hx:x.Shape y0)(hk:x.kind=7):Calls prog 147 #[.pointer (some ⟨ss,0,none⟩),.agg x.cells] y0 (MOut ss p F w0.heap.size (QOut t B p D u x.c F H w0.heap.size) y0):=by
 have hs:=C.row.only k0 (by simp);have Q1:∀ zs D',ComS D u zs D'→DoQ D u x.c zs D' 0:=fun zs D' h=>by have e:x.c.kind=7:=hk;unfold DoQ;rw [e];exact ⟨h,rfl⟩
 cases ho:findP u D.op with
 | none=>
  refine (commit_to (er:=12) (Q:=QQ t B p ss D u x.c F H w0.heap.size y0.heap.size (repC 2 0 12 0) 0) hs C.ap.1 (C.hl k0) (fun y k=>?_) fun y=>done_no 12 0 (by omega) y).mono fun e w' h=>meth_out (R9.num 2 0 12 0) (by decide) h;obtain ⟨ba,bo,hd,_,_⟩:=C.at_ (k0.trans k (by simp));exact (commit_no hd ho).mono fun e y' ⟨he,hb⟩=>by subst hb;exact cl_still C k0.size (k0.trans k (by simp)) k.size he (Δ _ _) (Q1 _ _ (.inl ⟨ho,rfl,rfl⟩)) fun z _ _ _=>tells_ref 12 0 (by omega) (by omega) (by omega) (by omega) z
 | some o=>
  obtain ⟨hom,hon⟩:=findP_some ho;have hlim:=C.lim;have hnum:=C.good.nums;have cm:∀ y,Only [] y0 y→Calls prog 229 #[.pointer (some ⟨p,0,none⟩),.int .u64 u] y (CommitTo B p D o F H y):=fun y k=>by obtain ⟨ba,bo,hd,_,_⟩:=C.at_ (k0.trans k (by simp));exact commit_on (C.at_ (k0.trans k (by simp))) (Nat.le_trans C.base (k0.trans k (by simp)).size) ho (by omega) fun j=>by have:=(C.sm hd).vers j;omega
  by_cases hc:ClashP D o
  ·refine (commit_to (er:=11) (Q:=QQ t B p ss D u x.c F H w0.heap.size y0.heap.size (repC 2 0 11 0) 0) hs C.ap.1 (C.hl k0) (fun y k=>?_) fun y=>done_no 11 0 (by omega) y).mono fun e w' h=>meth_out (R9.num 2 0 11 0) (by decide) h;refine (cm y k).mono fun e y' ⟨F',H',hO,kF,kH,hh⟩=>?_;rcases hh with ⟨_,he,hD⟩|⟨hn,_⟩
   ·rw [hon] at hD;exact cl_mk C k0.size k.size he hO hD kF kH (Q1 _ _ (.inr ⟨o,ho,.inl ⟨hc,rfl,rfl⟩⟩)) (C.good.shut u) fun z _ _ _=>tells_ref 11 0 (by omega) (by omega) (by omega) (by omega) z
   ·exact absurd hc hn
  ·refine (commit_to (er:=0) (Q:=QQ t B p ss D u x.c F H w0.heap.size y0.heap.size (repC 1 0 0 0) 0) hs C.ap.1 (C.hl k0) (fun y k=>?_) fun y=>done_ok 0 y).mono fun e w' h=>meth_out (R9.num 1 0 0 0) (by decide) h;refine (cm y k).mono fun e y' ⟨F',H',hO,kF,kH,hh⟩=>?_;rcases hh with ⟨hn,_⟩|⟨_,he,all',hD,hK,hall⟩
   ·exact absurd hn hc
   ·rw [hon] at hD;exact cl_mk C k0.size k.size he hO hD kF kH (Q1 _ _ (.inr ⟨o,ho,.inr ⟨hc,rfl,all',hK,rfl,hall⟩⟩)) (C.good.commit hom hK hall u) fun z _ _ _=>tells_done 0 (by omega) (by omega) z
theorem kd_abort(C:Cx t B p ss D u F H w0)(k0:Only [] w0 y0)(hx:x.Shape y0)(hk:x.kind=8):Calls prog 148 #[.pointer (some ⟨ss,0,none⟩),.agg x.cells] y0 (MOut ss p F w0.heap.size (QOut t B p D u x.c F H w0.heap.size) y0):=by
 have hs:=C.row.only k0 (by simp);have Q1:∀ zs D',AbS D u zs D'→DoQ D u x.c zs D' 0:=fun zs D' h=>by have e:x.c.kind=8:=hk;unfold DoQ;rw [e];exact ⟨h,rfl⟩
 cases ho:findP u D.op with
 | none=>
  refine (abort_to (er:=12) (Q:=QQ t B p ss D u x.c F H w0.heap.size y0.heap.size (repC 2 0 12 0) 0) hs C.ap.1 (C.hl k0) (fun y k=>?_) fun y=>done_no 12 0 (by omega) y).mono fun e w' h=>meth_out (R9.num 2 0 12 0) (by decide) h;obtain ⟨ba,bo,hd,_,_⟩:=C.at_ (k0.trans k (by simp));exact (abort_no hd ho).mono fun e y' ⟨he,hb⟩=>by subst hb;exact cl_still C k0.size (k0.trans k (by simp)) k.size he (Δ _ _) (Q1 _ _ (.inl ⟨ho,rfl,rfl⟩)) fun z _ _ _=>tells_ref 12 0 (by omega) (by omega) (by omega) (by omega) z
 | some o=>
  refine (abort_to (er:=0) (Q:=QQ t B p ss D u x.c F H w0.heap.size y0.heap.size (repC 1 0 0 0) 0) hs C.ap.1 (C.hl k0) (fun y k=>?_) fun y=>done_ok 0 y).mono fun e w' h=>meth_out (R9.num 1 0 0 0) (by decide) h;exact (abort_on (C.at_ (k0.trans k (by simp))) ho).mono fun e y' ⟨F',H',he,hD,hO,kF,kH⟩=>cl_mk C k0.size k.size he hO hD kF kH (Q1 _ _ (.inr ⟨⟨o,ho⟩,rfl,rfl⟩)) (C.good.shut u) fun z _ _ _=>tells_done 0 (by omega) (by omega) z
theorem kd_vacuum(C:Cx t B p ss D u F H w0)(k0:Only [] w0 y0)(hx:x.Shape y0)(hk:x.kind=9):Calls prog 149 #[.pointer (some ⟨ss,0,none⟩),.agg x.cells] y0 (MOut ss p F w0.heap.size (QOut t B p D u x.c F H w0.heap.size) y0):=by
 have hs:=C.row.only k0 (by simp);have Q1:∀ zs D',VacS D zs D'→DoQ D u x.c zs D' u:=fun zs D' h=>by have e:x.c.kind=9:=hk;unfold DoQ;rw [e];exact ⟨h,rfl⟩
 refine (vacuum_to (er:=0) (Q:=QQ t B p ss D u x.c F H w0.heap.size y0.heap.size (repC 1 0 0 0) u) hs C.ap.1 (C.hl k0) (fun y k=>?_) fun y=>done_ok 0 y).mono fun e w' h=>meth_out (R9.num 1 0 0 0) (by decide) h;obtain ⟨ba,bo,hd,_,_⟩:=C.at_ (k0.trans k (by simp));by_cases hop:D.op=[]
 ·exact (vacuum_on (C.at_ (k0.trans k (by simp))) (Nat.le_trans C.base (k0.trans k (by simp)).size) hop C.good.ne).mono fun e y' ⟨all',h1,h2,F',H',he,hD,hO,kF,kH⟩=>cl_mk C k0.size k.size he hO hD kF kH (Q1 _ _ ⟨rfl,.inr ⟨hop,all',h1,h2,rfl⟩⟩) (C.good.vac (all_nodup hd.am) h1 h2) fun z _ _ _=>tells_done 0 (by omega) (by omega) z
 ·exact (vacuum_busy hd (List.length_pos_iff.2 hop)).mono fun e y' ⟨he,hb⟩=>by subst hb;exact cl_still C k0.size (k0.trans k (by simp)) k.size he (Δ _ _) (Q1 _ _ ⟨rfl,.inl ⟨hop,rfl⟩⟩) fun z _ _ _=>tells_done 0 (by omega) (by omega) z
theorem still_out(C:Cx t B p ss D u F H w0)(k0:Only [] w0 y0){c:Qc}{zs:List Int}{e:Ending}{y':World}(r:R9)(hr:r.e≠6)(he:e=.returned (.agg r.cells))(hb:Below y0.heap.size y0 y')(hq:DoQ D u c zs D u)(hT:∀ z,Tells r.cells zs z):MOut ss p F w0.heap.size (QOut t B p D u c F H w0.heap.size) y0 e y':=by have k1:=k0.below hb;refine ⟨r,u,_,he,hr,C.row.only k1 (by simp),(Ω _ y0).below hb,?_,zs,D,F,H,hq,C.good.mono (by omega),Kp.refl _ _,Kp.refl _ _,rfl⟩;exact (db_lst C k0.size ((C.at_ k0).only ((Ω [] y0).below hb) (by simp)) (Kept.refl _ _) (Kept.refl _ _)).and fun z _ _ _=>hT z
theorem kd_begin(C:Cx t B p ss D u F H w0)(k0:Only [] w0 y0)(hx:x.Shape y0)(hk:x.kind=1):Calls prog 141 #[.pointer (some ⟨ss,0,none⟩),.agg x.cells] y0 (MOut ss p F w0.heap.size (QOut t B p D u x.c F H w0.heap.size) y0):=by
 have hs:=C.row.only k0 (by simp);have Q1:∀ zs D' u',BgnS D u zs D' u'→DoQ D u x.c zs D' u':=fun zs D' u' h=>by have e:x.c.kind=1:=hk;unfold DoQ;rw [e];exact h
 have hlim:=C.lim;have hnum:=C.good.nums;by_cases hu:u=0
 ·subst hu;by_cases hl:D.op.length<8
  ·refine (begin_to (t:=D.begun+1) (er:=0) (Q:=QQ t B p ss D 0 x.c F H w0.heap.size y0.heap.size (repC 1 0 0 0) (D.begun+1)) hs C.ap.1 (C.hl k0) (fun y k=>?_) fun y=>done_ok 0 y).mono fun e w' h=>meth_out (R9.num 1 0 0 0) (by decide) h;exact (begin_on (C.at_ (k0.trans k (by simp))) (Nat.le_trans C.base (k0.trans k (by simp)).size) hl (by omega)).mono fun e y' ⟨bt,bm,F',he,hD,hO,kF⟩=>cl_mk C k0.size k.size he hO hD kF (Kept.refl _ _) (Q1 _ _ _ (.inr ⟨rfl,.inl ⟨hl,rfl,rfl,bt,bm,rfl⟩⟩)) (C.good.opened hl bt bm) fun z _ _ _=>tells_done 0 (by omega) (by omega) z
  ·refine (begin_to (t:=0) (er:=5) (Q:=QQ t B p ss D 0 x.c F H w0.heap.size y0.heap.size (repC 2 0 5 0) 0) hs C.ap.1 (C.hl k0) (fun y k=>?_) fun y=>done_no 5 0 (by omega) y).mono fun e w' h=>meth_out (R9.num 2 0 5 0) (by decide) h;obtain ⟨ba,bo,hd,_,_⟩:=C.at_ (k0.trans k (by simp));exact (begin_full hd (by omega) (by have:=C.good.opn;omega)).mono fun e y' ⟨he,hb⟩=>by subst hb;exact cl_still C k0.size (k0.trans k (by simp)) k.size he (Δ _ _) (Q1 _ _ _ (.inr ⟨rfl,.inr ⟨hl,rfl,rfl,rfl⟩⟩)) fun z _ _ _=>tells_ref 5 0 (by omega) (by omega) (by omega) (by omega) z
 ·exact (begin_state hs hu).mono fun e y' ⟨he,hb⟩=>still_out C k0 (R9.num 2 0 12 0) (by decide) he hb (Q1 _ _ _ (.inl ⟨hu,rfl,rfl,rfl⟩)) fun z=>tells_ref 12 0 (by omega) (by omega) (by omega) (by omega) z
theorem quantG_err(x:Nat)(k:Int):(quantG x k).2.2=0∨(quantG x k).2.2=2∨(quantG x k).2.2=10:=by
 unfold quantG;split
 ·exact .inr (.inl rfl)
 ·split
  ·exact .inr (.inr rfl)
  ·split
   ·exact .inl rfl
   ·exact .inl rfl
theorem firstBad_err{k:Int}:∀ {l:List Nat} {i:Nat} {e:Int},firstBad k l=some (i,e)→e=0∨e=2∨e=10
 | [],_,_,h=>by simp [firstBad] at h
 | x :: l,i,e,h=>by
  unfold firstBad at h;by_cases h0:(quantG x k).2.2=0
  ·rw [if_pos h0,Option.map_eq_some_iff] at h;obtain ⟨⟨j,f⟩,h1,h2⟩:=h;simp only [Prod.mk.injEq] at h2;obtain ⟨rfl,rfl⟩:=h2;exact firstBad_err h1
  ·rw [if_neg h0] at h;simp only [Option.some.injEq,Prod.mk.injEq] at h;obtain ⟨rfl,rfl⟩:=h;exact quantG_err x k
theorem quF_six(c:Qc):(quF c).2.2.2≠6:=by
 unfold quF allG;split
 ·decide
 ·split
  ·decide
  ·split
   ·rename_i i e h
    have:=firstBad_err h;show e≠6;omega
   ·show (0:Int)≠6;decide
theorem kd_putf(C:Cx t B p ss D u F H w0)(k0:Only [] w0 y0)(hx:x.Shape y0)(hk:x.kind=10):Calls prog 150 #[.pointer (some ⟨ss,0,none⟩),.agg x.cells] y0 (MOut ss p F w0.heap.size (QOut t B p D u x.c F H w0.heap.size) y0):=by
 have hs:=C.row.only k0 (by simp);obtain ⟨hf,hfr,hfl⟩:=shape_fl hx;obtain ⟨ht,hby,ht1,kk0,kk1⟩:=shape_putf hx hk;obtain ⟨g1,g2,g3,g4,g5,g6,g7⟩:=quF_gd x.c;have qa:∀ y,Only [] y0 y→AllC 188 x.fl.v x.scale (quF x.c).1 (quF x.c).2.1 (quF x.c).2.2.1 (quF x.c).2.2.2 y:=fun y k=>quant_on (hf.only k (by simp)) hfr hfl;have Q1:∀ zs D',PutFS D u x.c zs D'→DoQ D u x.c zs D' u:=fun zs D' h=>by have e:x.c.kind=10:=hk;unfold DoQ;rw [e];exact ⟨h,rfl⟩
 by_cases hz:(quF x.c).2.2.2=0
 ·have hvl:(quF x.c).1.length≤4096:=by
   have hfl':x.c.fl.length≤4096:=hfl;unfold quF allG;split
   ·simp
   ·split
    ·simp
    ·split
     ·simp
     ·simp [valL];exact hfl'
  obtain ⟨er,her,hb⟩:=put_base C x.it.key (quF x.c).1 x.it.tag.xs ht1 (by omega);have call:∀ (R:Array Value),(∀ z,Tells R (if er=0 then [1,(quF x.c).2.1] else refB er 0) z)→∀ (y:World) (v:Sl),Only [] y0 y→SlRd .i32 y v→v.xs=(quF x.c).1→Calls prog 234 #[.pointer (some ⟨p,0,none⟩),.int .u64 u,.agg #[.int .u64 x.it.key,v.v,x.it.tag.v]] y (CallTo ss (.int .i64 er) F y0.heap.size (QQ t B p ss D u x.c F H w0.heap.size y0.heap.size R u) y):=fun R hR y v k hv he=>by refine (hb y v x.it.tag (k0.trans k (by simp)) hv (ht.only k (by simp)) he rfl).mono fun e y' ⟨D',H',he,hp,hD,hO,hK,hg⟩=>?_;exact cl_mk C k0.size k.size he hO hD (Kept.refl _ _) hK (Q1 _ _ (.inr ⟨hz,hp (quF x.c).2.1⟩)) (put_good C hg g1 ht1 hby kk0 kk1) fun z _ _ _=>hR z
  rcases her with rfl|h9
  ·exact (putf_to hs qa hz hvl C.ap.1 (C.hl k0) (call (repC 1 (quF x.c).2.1 0 0) fun z=>tells_done _ g2 g3 z) fun y=>wrote_ok ss _ y).mono fun e w' h=>meth_out (R9.num 1 (quF x.c).2.1 0 0) (show (0:Int)≠6 from by decide) h
  ·have hn:er≠0:=(by omega);rw [if_neg hn] at call;exact (putf_to hs qa hz hvl C.ap.1 (C.hl k0) (call (repC 2 0 er 0) fun z=>tells_ref er 0 (by omega) (by omega) (by omega) (by omega) z) fun y=>wrote_no ss er _ hn (by omega) y).mono fun e w' h=>meth_out (R9.num 2 0 er 0) (show er≠6 by omega) h
 ·exact (putf_bad hs qa hz).mono fun e y' ⟨he,hb⟩=>still_out C k0 (R9.num 2 0 (quF x.c).2.2.2 (quF x.c).2.2.1) (quF_six x.c) he hb (Q1 _ _ (.inl ⟨hz,rfl,rfl⟩)) fun z=>tells_ref (quF x.c).2.2.2 (quF x.c).2.2.1 (by omega) (by omega) g6 g7 z
end
section
variable {t B p ss:Nat} {D:PDB} {u:Int} {F H:List Nat} {w0 y0:World} {x:Rq}
theorem cl_still3(C:Cx t B p ss D u F H w0){y y1 y':World}{c:Qc}{R:Array Value}{zs:List Int}{v:Value}{e:Ending}(h0:w0.heap.size≤y0.heap.size)(k:Only [] w0 y1)(hy:y0.heap.size≤y.heap.size)(hy1:y.heap.size≤y1.heap.size)(he:e=.returned v)(hb:Below y1.heap.size y1 y')
  (hq:DoQ D u c zs D u) (hT:Lst (Own ss w0.heap.size y1.heap.size) (Tells R zs) y'):CallTo ss v F y.heap.size (Lst (Own ss y0.heap.size y.heap.size) (QQ t B p ss D u c F H w0.heap.size y0.heap.size R u)) y1 e y':=by
 have h1:=Lst.and (db_lst C (Nat.le_trans h0 (Nat.le_trans hy hy1)) ((C.at_ k).only ((Ω [] y1).below hb) (by simp)) (Kept.refl _ _) (Kept.refl _ _)) hT;have h2:=h1.nest (P1:=Own ss y.heap.size y1.heap.size) (P2:=Own ss w0.heap.size y.heap.size) (fun b hb=>hb.mono (Nat.le_trans h0 hy) (Θ _)) (fun b hb=>hb.mono (Θ _) hy1);refine ⟨he,(Ω F y1).below hb,h2.imp fun z hz=>?_⟩;have h3:=hz.nest (P1:=Own ss y0.heap.size y.heap.size) (P2:=Own ss w0.heap.size y0.heap.size) (fun b hb=>hb.mono h0 (Θ _)) (fun b hb=>hb.mono (Θ _) hy);exact h3.imp fun z2 hz2=>⟨zs,D,F,H,hq,C.good.mono (by omega),Kp.refl _ _,Kp.refl _ _,hz2⟩
theorem MethTo.imp{row R:Array Value}{Q Q2:World→Prop}{w w':World}{e:Ending}(h:MethTo ss row R F Q w e w')(hi:∀ z,Q z→Q2 z):MethTo ss row R F Q2 w e w':=by obtain ⟨h1,h2,h3,h4⟩:=h;exact ⟨h1,h2,h3,hi _ h4⟩
theorem kd_knnf(C:Cx t B p ss D u F H w0)(k0:Only [] w0 y0)(hx:x.Shape y0)(hk:x.kind=11)(h50:x.n≤50):Calls prog 151 #[.pointer (some ⟨ss,0,none⟩),.agg x.cells] y0 (MOut ss p F w0.heap.size (QOut t B p D u x.c F H w0.heap.size) y0):=by
 have hs:=C.row.only k0 (by simp);have hn:=shape_n hx;obtain ⟨hf,hfr,hfl⟩:=shape_fl hx;obtain ⟨g1,g2,g3,g4,g5,g6,g7⟩:=quF_gd x.c;have qa:∀ y,Only [] y0 y→AllC 188 x.fl.v x.scale (quF x.c).1 (quF x.c).2.1 (quF x.c).2.2.1 (quF x.c).2.2.2 y:=fun y k=>quant_on (hf.only k (by simp)) hfr hfl;have Q1:∀ zs,KnnFS D u x.c zs→DoQ D u x.c zs D u:=fun zs h=>by have e:x.c.kind=11:=hk;unfold DoQ;rw [e];exact ⟨h,rfl,rfl⟩
 by_cases hz:(quF x.c).2.2.2=0
 ·have hvl:(quF x.c).1.length≤4096:=by
   have hfl':x.c.fl.length≤4096:=hfl;unfold quF allG;split
   ·simp
   ·split
    ·simp
    ·split
     ·simp
     ·simp [valL];exact hfl'
  refine (knnf_to (Q:=fun R z=>(∃ r:R9,R=r.cells∧r.e≠6)∧QQ t B p ss D u x.c F H w0.heap.size y0.heap.size R u z) hs qa hz hvl C.ap.1 (C.hl k0) fun y v k hv he=>?_).mono fun e w' ⟨R,h⟩=>?_
  ·have hs2:=hs.only k (by simp);have hl2:∀ b∈F,b<y.heap.size:=fun b hb=>Nat.lt_of_lt_of_le (C.hl k0 b hb) k.size;rcases knn_base C (quF x.c).1 x.n hn.1 h50 g1 with ⟨er,her,hS,hB⟩|hB
   ·refine (knn_ref (x:={ x with q:=v }) (er:=er) (Q:=Lst (Own ss y0.heap.size y.heap.size) (QQ t B p ss D u x.c F H w0.heap.size y0.heap.size (repC 2 0 er 0) u)) (by omega) hs2 C.ap.1 hl2 (fun y1 k1=>?_)).mono fun e w' h=>⟨2,0,er,0,none,0,0,h.imp fun z hz=>hz.imp fun z2 h2=>⟨⟨R9.num 2 0 er 0,rfl,show er≠6 by omega⟩,h2⟩⟩;exact (hB y1 v ((k0.trans k (by simp)).trans k1 (by simp)) (hv.only k1 (by simp)) he).mono fun e y' ⟨he,hb⟩=>cl_still3 C k0.size ((k0.trans k (by simp)).trans k1 (by simp)) k.size k1.size he hb (Q1 _ (.inr ⟨hz,hS⟩)) fun z _ _ _=>tells_ref er 0 (by omega) (by omega) (by omega) (by omega) z
   ·refine (knn_to (x:={ x with q:=v }) (Q:=fun a n c=>Lst (Own ss y0.heap.size y.heap.size) (QQ t B p ss D u x.c F H w0.heap.size y0.heap.size (htsC a n c) u)) hs2 C.ap.1 hl2 (fun y1 k1=>?_)).mono fun e w' ⟨a,n,c,h⟩=>⟨5,0,0,0,a,n,c,h.imp fun z hz=>hz.imp fun z2 h2=>⟨⟨⟨5,0,0,0,0,none,0,0,none,0,0,none,0,0,a,n,c⟩,rfl,show (0:Int)≠6 from by decide⟩,h2⟩⟩;exact (hB y1 v ((k0.trans k (by simp)).trans k1 (by simp)) (hv.only k1 (by simp)) he).mono fun e y' ⟨zs,hS,a,m,c,he,hb,hT⟩=>⟨a,m,c,cl_still3 C k0.size ((k0.trans k (by simp)).trans k1 (by simp)) k.size k1.size he hb (Q1 _ (.inr ⟨hz,hS⟩)) hT⟩
  ·obtain ⟨h1,h2,h3,⟨r,rfl,hr⟩,h4⟩:=h;exact meth_out r hr ⟨h1,h2,h3,h4⟩
 ·exact (knnf_bad hs qa hz).mono fun e y' ⟨he,hb⟩=>still_out C k0 (R9.num 2 0 (quF x.c).2.2.2 (quF x.c).2.2.1) (quF_six x.c) he hb (Q1 _ (.inl ⟨hz,rfl⟩)) fun z=>tells_ref (quF x.c).2.2.2 (quF x.c).2.2.1 (by omega) (by omega) g6 g7 z
def SOut(t B p:Nat)(D:PDB)(u:Int)(b:List Int)(F H:List Nat)(n0:Nat)(r:R9)(u':Int)(J:World→Prop):Prop:=∃ zs D' F' H',Step D u b zs D' u'∧Good (t+1) D'∧Kp F F' n0∧Kp H H' n0∧J=fun z=>DbF z B p D' F' H'∧Tells r.cells zs z
theorem MOut.imp{lo:Nat}{O1 O2:R9→Int→(World→Prop)→Prop}{y y':World}{e:Ending}(h:MOut ss p F lo O1 y e y')(hi:∀ r u J,O1 r u J→O2 r u J):MOut ss p F lo O2 y e y':=by obtain ⟨r,u',J,h1,h2,h3,h4,h5,h6⟩:=h;exact ⟨r,u',J,h1,h2,h3,h4,h5,hi _ _ _ h6⟩
theorem may_kind{c:Qc}(h:c.may=true):(c.kind=1∨c.kind=2∨c.kind=3∨c.kind=4∨c.kind=5∨c.kind=6∨c.kind=7∨c.kind=8∨c.kind=9∨c.kind=10∨c.kind=11)∧((c.kind=5∨c.kind=6∨c.kind=11)→c.n≤50):=by
 unfold Qc.may at h;by_cases k2:c.kind=2
 ·exact ⟨by omega,by omega⟩
 rw [if_neg k2] at h;by_cases k3:c.kind=3∨c.kind=4
 ·exact ⟨by omega,by omega⟩
 rw [if_neg k3] at h;by_cases k5:c.kind=5∨c.kind=6
 ·rw [if_pos k5] at h;have:=of_decide_eq_true h;exact ⟨by omega,fun _=>this⟩
 rw [if_neg k5] at h;by_cases k10:c.kind=10
 ·exact ⟨by omega,by omega⟩
 rw [if_neg k10] at h;by_cases k11:c.kind=11
 ·rw [if_pos k11] at h;simp only [Bool.and_eq_true,decide_eq_true_eq] at h;exact ⟨by omega,fun _=>h.1⟩
 rw [if_neg k11] at h;have:=of_decide_eq_true h;exact ⟨by omega,by omega⟩
theorem askQ_may{b:List Int}{c:Qc}(h:askQ b=some c):c.may=true:=by
 unfold askQ at h;split at h
 ·rename_i h1
  cases h;exact h1.1
 ·cases h
theorem kinds(C:Cx t B p ss D u F H w0){s:Sl}(k0:Only [] w0 y0)(hx:x.Shape y0)(hq:askQ s.xs=some x.c)(hst:¬ (u=0∧x.kind≠1∧x.kind≠9)) :
  ∃ fn:FuncId,(lk x.kind howL).getD .nilFunc=.func (.func fn) #[] #[]∧(∀ (args:Array Value) (w:World),(callFunc fn args).run prog w=.ok (.enter fn args) w)∧∀ y2,Only [] y0 y2→Calls prog fn #[.pointer (some ⟨ss,0,none⟩),.agg x.cells] y2 (MOut ss p F w0.heap.size (SOut t B p D u s.xs F H w0.heap.size) y2):=by
 have st:∀ r u' J,QOut t B p D u x.c F H w0.heap.size r u' J→SOut t B p D u s.xs F H w0.heap.size r u' J:=fun r u' J ⟨zs,D',F',H',h1,h2,h3,h4,h5⟩=>by refine ⟨zs,D',F',H',?_,h2,h3,h4,h5⟩;unfold Step;rw [hq];have hst':¬ (u=0∧x.c.kind≠1∧x.c.kind≠9):=hst;simp only;rw [if_neg hst'];exact h1
 have mx:=may_kind (askQ_may hq);have sh:∀ y2,Only [] y0 y2→x.Shape y2:=fun y2 k=>hx.only k (by simp);have K:∀ y2,Only [] y0 y2→Only [] w0 y2:=fun y2 k=>k0.trans k (by simp);rcases mx.1 with h|h|h|h|h|h|h|h|h|h|h
 ·have hk:x.kind=1:=h;exact ⟨141,by rw [hk];rfl,fun _ _=>by kernel_rfl,fun y2 k=>(kd_begin C (K y2 k) (sh y2 k) hk).mono fun e w' h=>h.imp st⟩
 ·have hk:x.kind=2:=h;exact ⟨142,by rw [hk];rfl,fun _ _=>by kernel_rfl,fun y2 k=>(kd_put C (K y2 k) (sh y2 k) hk).mono fun e w' h=>h.imp st⟩
 ·have hk:x.kind=3:=h;exact ⟨143,by rw [hk];rfl,fun _ _=>by kernel_rfl,fun y2 k=>(kd_delete C (K y2 k) (sh y2 k) hk).mono fun e w' h=>h.imp st⟩
 ·have hk:x.kind=4:=h;exact ⟨144,by rw [hk];rfl,fun _ _=>by kernel_rfl,fun y2 k=>(kd_get C (K y2 k) (sh y2 k) hk).mono fun e w' h=>h.imp st⟩
 ·have hk:x.kind=5:=h;have hn:x.n≤50:=mx.2 (.inl h);exact ⟨145,by rw [hk];rfl,fun _ _=>by kernel_rfl,fun y2 k=>(kd_scan C (K y2 k) (sh y2 k) hk hn).mono fun e w' h=>h.imp st⟩
 ·have hk:x.kind=6:=h;have hn:x.n≤50:=mx.2 (.inr (.inl h));exact ⟨146,by rw [hk];rfl,fun _ _=>by kernel_rfl,fun y2 k=>(kd_knn C (K y2 k) (sh y2 k) hk hn).mono fun e w' h=>h.imp st⟩
 ·have hk:x.kind=7:=h;exact ⟨147,by rw [hk];rfl,fun _ _=>by kernel_rfl,fun y2 k=>(kd_commit C (K y2 k) (sh y2 k) hk).mono fun e w' h=>h.imp st⟩
 ·have hk:x.kind=8:=h;exact ⟨148,by rw [hk];rfl,fun _ _=>by kernel_rfl,fun y2 k=>(kd_abort C (K y2 k) (sh y2 k) hk).mono fun e w' h=>h.imp st⟩
 ·have hk:x.kind=9:=h;exact ⟨149,by rw [hk];rfl,fun _ _=>by kernel_rfl,fun y2 k=>(kd_vacuum C (K y2 k) (sh y2 k) hk).mono fun e w' h=>h.imp st⟩
 ·have hk:x.kind=10:=h;exact ⟨150,by rw [hk];rfl,fun _ _=>by kernel_rfl,fun y2 k=>(kd_putf C (K y2 k) (sh y2 k) hk).mono fun e w' h=>h.imp st⟩
 ·have hk:x.kind=11:=h;have hn:x.n≤50:=mx.2 (.inr (.inr h));exact ⟨151,by rw [hk];rfl,fun _ _=>by kernel_rfl,fun y2 k=>(kd_knnf C (K y2 k) (sh y2 k) hk hn).mono fun e w' h=>h.imp st⟩
theorem reply_on(C:Cx t B p ss D u F H w0){s:Sl}(hr:SlRd .u8 w0 s)(hby:IsBy s.xs)(hsc:s.xs.length≤s.c) :
  Calls prog 36 #[.pointer (some ⟨ss,0,none⟩),s.v] w0 (fun e w'=>∃ (r:R9) (u':Int) (J:World→Prop),e=.returned (.agg r.cells)∧Row w' ss #[baseV p,.int .u64 u'] tSs∧Only (ss :: F) w0 w'∧J w'∧SOut t B p D u s.xs F H w0.heap.size r u' J):=by
 refine reply_to C.row C.ap.1 C.lt.1 hr hby hsc (fun hq=>?_) (fun c hq hst=>?_) fun x y k hx hq hst=>kinds C k hx hq hst
 ·refine ⟨_,⟨refB 4 0,D,F,H,?_,C.good.mono (by omega),Kp.refl _ _,Kp.refl _ _,rfl⟩,fun z k=>⟨C.at_ k,tells_ref 4 0 (by omega) (by omega) (by omega) (by omega) z⟩⟩;unfold Step;rw [hq];exact ⟨rfl,rfl,rfl⟩
 ·refine ⟨_,⟨refB 12 0,D,F,H,?_,C.good.mono (by omega),Kp.refl _ _,Kp.refl _ _,rfl⟩,fun z k=>⟨C.at_ k,tells_ref 12 0 (by omega) (by omega) (by omega) (by omega) z⟩⟩;unfold Step;rw [hq];show ite _ _ _;rw [if_pos hst];exact ⟨rfl,rfl,rfl⟩
def DoTo(t B p ss:Nat)(D:PDB)(u:Int)(b:List Int)(F H:List Nat)(w:World)(e:Ending)(w':World):Prop:=∃ v zs D' u' F' H',e=.returned v∧w'.ownsRow w.heap.size 5 1 v zs.length (zs.map (Value.int .u8))∧Step D u b zs D' u'∧Cx (t+1) B p ss D' u' F' H' w'∧Only (ss :: F) w w'∧Kp F F' w.heap.size∧Kp H H' w.heap.size∧∀ b,v.ownBlock=some b→w.heap.size≤b∧b∉F'∧b∉H'
theorem do_on(C:Cx t B p ss D u F H w0){s:Sl}(hr:SlRd .u8 w0 s)(hby:IsBy s.xs)(hsc:s.xs.length≤s.c)(ht:t+1<300000) :
  Calls prog 14 #[.pointer (some ⟨ss,0,none⟩),s.v] w0 (DoTo t B p ss D u s.xs F H w0):=by
 have RP:=Ξ (reply_on C hr hby hsc);have HC:=Ξ C;have HT:=Ξ ht;unfold Sl.v at RP ⊢;clear C hr hby hsc ht;go_enter func14,ntmps14;go_wp2_with fail;refine RP.out.mono ?_;rintro _ w2 ⟨r,u',J,rfl,h2,h3,h4,h5⟩;obtain ⟨zs,D',F',H',hst,hg,kF,kH,rfl⟩:=h5;have TD:=Ξ (h4.2 w2 (Δ _ _));have X:=Ξ (Ψ h2 (Ψ h3 (Ψ h4.1 (Ψ hst (Ψ hg (Ψ kF kH))))));unfold AskTo at TD;unfold R9.cells at TD ⊢;clear h2 h3 h4 hst hg kF kH RP;go_wp2_with fail;refine TD.out.mono ?_;rintro _ w3 ⟨v,rfl,ho,hb3⟩;have N:Hid (DoTo t B p ss D u s.xs F H w0 (.returned v) w3):=Ξ (by obtain ⟨h2,h3,h4,hst,hg,kF,kH⟩:=X.out;have k:=(Ω [] w2).below hb3;have l:=HC.out.lt;have hap:ss∉F'∧ss∉H':=⟨fun hm=>(kF ss hm).elim HC.out.ap.1 (by omega),fun hm=>(kH ss hm).elim HC.out.ap.2 (by omega)⟩;have k3:=h3.below hb3;refine ⟨v,zs,D',u',F',H',rfl,own_mono ho h3.size,hst,⟨h4.only k (by simp),Nat.le_trans HC.out.base k3.size,hg,HT.out,h2.only k (by simp),hap⟩,k3,kF,kH,fun b hb=>?_⟩;have hl:=(ho.lt b hb).1;have hz:=h3.size;exact ⟨by omega,fun hm=>by have:=h4.lt.1 b hm;omega,fun hm=>by have:=h4.lt.2 b hm;omega⟩)
 clear ho hb3 TD;go_wp2_with fail;go_ret;exact N.out
end
end Go.Proofs.YtcgmgdjeamidlaaGreat
