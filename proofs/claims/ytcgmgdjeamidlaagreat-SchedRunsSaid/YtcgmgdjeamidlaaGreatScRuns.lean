/- Printed small by mini.py. -/
import Derived.Test.YtcgmgdjeamidlaaGreatSrG
namespace Go.Proofs.YtcgmgdjeamidlaaGreat.schedRuns
set_option maxRecDepth 100000
set_option maxHeartbeats 16000000
open Go.ChangeShapes Go.WideShapes Go.ChangeAt Go.RowKit Go.Joins
set_option linter.unusedVariables false
set_option linter.unusedSimpArgs false
def Goal(a0:Option Addr)(n0 c0:Nat)(W:World):Prop:=Calls Tryz.prog 9 #[.slice a0 n0 c0] W fun e w'=>e=.returned (.bool true)∧Below W.heap.size W w'
theorem walk(a0:Option Addr)(n0 c0:Nat)(es:List EvS)(W:World)(h0:EvsIn W a0 n0 es):Goal a0 n0 c0 W:=by
 unfold Goal;by_cases hn:n0≤60
 ·have d1:decide ((60:Int)<(n0:Int))=false:=Λ (by omega);have d1':decide (60<n0)=false:=Λ (by omega);have TT:=Ξ (total_on (c:=c0) h0 hn);have H0:=Ξ h0;have HN:=Ξ hn;clear h0 hn;go_enter Tryz.func9,Tryz.ntmps9;go_wp2_with fail;refine TT.out.mono ?_;rintro _ w1 ⟨T,rfl,hT,hw⟩;subst hw;by_cases ht:T≤200000
  ·have d2:decide ((200000:Int)<T)=false:=Λ (by omega);have HE:=Ξ (rdk_of H0.out (hT ht));have HL:=Ξ (hT ht);have N1:=Ξ (new_on 2 w1 (by omega) (by omega));clear hT ht H0;go_wp2_with fail;refine N1.out.mono ?_;rintro _ wa ⟨p,F,H,rfl,hd1,hb1⟩;have D1:=Ξ (Ψ hd1 hb1);have N2:=Ξ (new_on 2 wa (by omega) (by omega));clear hd1 hb1 N1;go_wp2_with fail;refine N2.out.mono ?_;rintro _ wb ⟨p2,F2,H2,rfl,hd2,hb2⟩;have D2:=Ξ (Ψ hd2 hb2);have N3:=Ξ (new_on 2 wb (by omega) (by omega));clear hd2 hb2 N2;go_wp2_with fail;refine N3.out.mono ?_;rintro _ wc ⟨p3,F3,H3,rfl,hd3,hb3⟩;have D3:=Ξ (Ψ hd3 hb3);have S1:=Ξ (new_z (n:=3) (D1.out.1.only (((Ω [] wa).below D2.out.2).trans ((Ω [] wb).below hb3) (by simp)) (by simp)) (Nat.le_trans D1.out.2.size (Nat.le_trans D2.out.2.size hb3.size)) (by omega) (by omega) (by omega) (by omega));clear hd3 hb3 N3;go_wp2_with fail;refine S1.out.mono ?_;rintro _ wd ⟨g,Z1,rfl,hz1',hO3,hk1⟩;have D4:=Ξ (Ψ hz1' (Ψ hO3 hk1));have S2:=Ξ (new_z (n:=3) (D2.out.1.only (((Ω [] wb).below D3.out.2).trans hO3 (by simp)) (by simp)) (Nat.le_trans D2.out.2.size (Nat.le_trans D3.out.2.size hO3.size)) (by omega) (by omega) (by omega) (by omega));clear hz1' hO3 hk1 S1;go_wp2_with fail;refine S2.out.mono ?_;rintro _ we ⟨g2,Z2,rfl,hz2',hO4,hk2⟩;have R0:=Ξ (rd_start D1.out.1 D1.out.2 D2.out.1 D2.out.2 D3.out.1 D3.out.2 D4.out.1 D4.out.2.1 D4.out.2.2 hz2' hO4 hk2);clear hz2' hO4 hk2 S2 D1 D2 D3 D4;go_wp2_with fail;go_loopw [13,14,15,16,17,18,19,20] (fun r _ _ _ _ _ _ _ wr=>∃ k:Nat,r=.int .i64 (k:Int)∧Hid (k≤2)∧Hid (RdM w1 g g2 p3 k wr)) (fun r _ _ _ _ _ _ _ _=>2-(intOf r).toNat)
   case atStart=>exact ⟨0,rfl,Ξ (by omega),R0⟩
   case round=>
    clear R0;obtain ⟨r,rfl,HR,RD⟩:=hrel;rename World=>w3;by_cases hr:r<2
    ·have d3:decide ((r:Int)<2)=true:=Γ (by omega);have d3':decide (r<2)=true:=Γ hr;have er:IntKind.i64.wrap ((r:Int)+1)=((r+1:Nat):Int):=IntWalk.i64_in _ (by omega);have RN:=Ξ (rd_run RD.out hr (cp:=c0) HE.out HN.out HL.out);have HR2:=Ξ hr;clear hr;go_wp2_with fail;refine RN.out.mono ?_;rintro _ w4 ⟨c,ok,e1,e2,e3,e4,e5,e6,rfl,hI⟩;have EL:=Ξ HE.out.1;rw [EL.out];have HC:=Ξ (Ψ ok (Ψ e1 (Ψ e2 (Ψ e3 (Ψ e4 (Ψ e5 e6))))));have I0:=Ξ hI;clear ok e1 e2 e3 e4 e5 e6 hI RN;go_wp2_with fail;go_loopw [15,16,17] (fun i _ _ wr=>∃ k:Nat,i=.int .i64 (k:Int)∧Hid (k≤n0)∧Hid (MdI c k wr)) (fun i _ _ _=>n0-(intOf i).toNat)
     case atStart=>exact ⟨0,rfl,Ξ (Nat.zero_le _),I0⟩
     case round=>
      clear I0;obtain ⟨k,rfl,HK,HI⟩:=hrel;rename World=>w5;by_cases hk:k<n0
      ·have d4:decide ((k:Int)<(n0:Int))=true:=Γ (by omega);have d4':decide (k<n0)=true:=Γ hk;have j3:(k:Int)<(n0:Int):=(by omega);have ek:IntKind.i64.wrap ((k:Int)+1)=((k+1:Nat):Int):=IntWalk.i64_in _ (by have:=HN.out;omega);obtain ⟨ev,hev⟩:∃ ev,es[k]? = some ev:=⟨_,List.getElem?_eq_getElem (by have:=EL.out;omega)⟩;have HV:=Ξ hev;have KD:=Ξ ((Ω [] w5).drew);have HX:∃ b off,a0=some ⟨b,off,none⟩∧Hid (∀ y,Only [] w5 y→SlRd .u8 y ev.b∧y.cell? ⟨b,off+k * 2,none⟩=some (.int .i64 ev.k)∧y.cell? ⟨b,off+k * 2+1,none⟩=some ev.b.v)∧Hid (IsBy ev.b.xs):=by
        have B:Below w1.heap.size w1 w5:=by have B:=HI.out.bel;unfold MdC.L at B;rw [HC.out.2.1] at B;exact B
        rcases (HE.out.only ((Ω [] w1).below B) (by simp)).2 with h0|⟨b,off,e,hb,h⟩
        ·omega
        ·refine ⟨b,off,e,Ξ fun y hy=>?_,Ξ (h k ev hev).2.2.1⟩;obtain ⟨a1,a2,a3,a4,a5⟩:=h k ev hev;exact ⟨a1.only hy (by simp),by rw [hy.cell (World.block_lt_of_cell? w5 _ a4) (by simp)];exact a4,by rw [hy.cell (World.block_lt_of_cell? w5 _ a5) (by simp)];exact a5⟩
       obtain ⟨b,off,rfl,HA,HB⟩:=HX;obtain ⟨_,q0,q1⟩:=HA.out w5 (Ω [] w5);obtain ⟨_,q2,q3⟩:=HA.out w5.drew KD.out;have ST:=Ξ (md_step HC.out.1 (HI.out.same KD.out) (ev:=ev) (by rw [HC.out.2.2.2.2.2.2];exact hev) (HA.out w5.drew KD.out).1 HB.out);rw [HC.out.2.2.2.1] at ST;clear hk hev;go_upto_region 19 with fail;go_cut [16,17] from 78 to 93 (fun s16 s17 wc=>∃ (a:Option Addr) (n cc:Nat) (o:List Int) (a2:Option Addr) (n2 c2:Nat),s16=.slice a n cc∧Hid (Ints .u8 wc (.slice a n cc) o)∧wc.cell? ⟨c.ob,k,none⟩=some (.slice a2 n2 c2)∧Hid (Ints .u8 wc (.slice a2 n2 c2) o)∧Hid (MdI c (k+1) wc))
       case first=>
        go_region_with ((with_reducible refine ST.out.mono ?_);rintro _ w6 ⟨a,n,cc,xr,o,v,rfl,hi,hc,hv,⟨a2,n2,c2,rfl⟩,hI⟩;have NX:Hid (Ints .u8 w6 (.slice a n cc) o∧w6.cell? ⟨c.ob,k,none⟩=some (.slice a2 n2 c2)∧Ints .u8 w6 (.slice a2 n2 c2) o∧MdI c (k+1) w6):=Ξ ⟨hi,hc,hv,hI⟩;clear hi hc hv hI)
        all_goals
         go_wp2_with fail;go_meet;exact ⟨a,n,cc,o,a2,n2,c2,rfl,Ξ NX.out.1,NX.out.2.1,Ξ NX.out.2.2.1,Ξ NX.out.2.2.2⟩
       case rest=>
        obtain ⟨a,n,cc,o,a2,n2,c2,rfl,HS,q4,HS2,HI2⟩:=hcut;rename World=>w6;have V1:=fun nq=>conv_ints (show Ints .u8 (w6.drewN nq) (.slice a n cc) o from HS.out.below fun _ _ _=>rfl);have V2:=fun nq=>conv_ints (show Ints .u8 (w6.drewN nq) (.slice a2 n2 c2) o from HS2.out.below fun _ _ _=>rfl);generalize strOfNums o=S0 at *;have J1:Hid (k+1≤n0):=Ξ (by omega);clear ST HS HS2 HI HK HA HB q0 q1 q2 q3;go_wp2_with fail;go_quiet (fail)
        go_wp2_with fail;go_roundw;case rel=>exact ⟨k+1,by go_num,J1,Ξ (HI2.out.same ((Ω [] w6).drewN _))⟩
        case measure=>have:=J1.out;simp [intOf];omega
      ·have d4:decide ((k:Int)<(n0:Int))=false:=Λ (by omega);have d4':decide (k<n0)=false:=Λ hk;clear hk;have N4:=Ξ (new_on 2 w5 (by omega) (by omega));go_wp2_with fail;refine N4.out.mono ?_;rintro _ w6 ⟨p4,F4,H4,rfl,hd4,hb4⟩;have RS:=Ξ (md_end HC.out.1 HI.out hd4 hb4);rw [HC.out.2.2.1,HC.out.2.2.2.2.1] at RS;unfold RdR at RS;rw [HC.out.2.1,HC.out.2.2.1,HC.out.2.2.2.1,HC.out.2.2.2.2.1,HC.out.2.2.2.2.2.1] at RS;clear hd4 hb4 N4 HI HK;go_wp2_with fail;refine RS.out.mono ?_;rintro _ w7 ⟨rfl,hr2⟩;have RT:=Ξ hr2;clear hr2 RS;go_wp2_with fail;refine RT.out.mono ?_;rintro _ w8 ⟨rfl,hE⟩;obtain ⟨hRM,B9,p9,x9,Z9,hs9,hx9⟩:=hE;have RM:=Ξ hRM;have S9:=Ξ (Ψ hs9 hx9);have RNil:=Ξ (reset_nil_z hs9);have SE:=Ξ (sessions_z hs9);clear hRM hs9 hx9 RT;go_wp2_with fail;refine RNil.out.mono ?_;rintro _ w9 ⟨rfl,hw⟩;subst w9;go_wp2_with fail;refine SE.out.mono ?_;rintro _ w9 ⟨rfl,hw⟩;subst w9;go_wp2_with fail;go_loopw [20] (fun i wr=>∃ j:Nat,i=.int .i64 (j:Int)∧Hid (j≤3)∧wr=w8) (fun i _=>3-(intOf i).toNat)
       case atStart=>exact ⟨0,rfl,Ξ (by omega),rfl⟩
       case round=>
        obtain ⟨j,rfl,HJ,hw⟩:=hrel;subst hw;by_cases hj:j<3
        ·have d5:decide ((j:Int)<3)=true:=Γ (by omega);have d5':decide (j<3)=true:=Γ hj;have ej:IntKind.i64.wrap ((j:Int)+1)=((j+1:Nat):Int):=IntWalk.i64_in _ (by omega);have TX:=Ξ (txn_z (m:=j) S9.out.1 (u:=0) (by rw [S9.out.2,List.getElem?_replicate,if_pos hj]));have CL:=Ξ (closed_z (m:=j) S9.out.1 (q:=([],0)) (by rw [List.getElem?_replicate,if_pos hj]));rw [show decide ((([],0):List Int×Int).2≠0)=false by decide] at CL;have J1:Hid (j+1≤3):=Ξ (by omega);clear hj;go_wp2_with fail;refine TX.out.mono ?_;rintro _ w9 ⟨rfl,hw⟩;subst w9;go_wp2_with fail;refine CL.out.mono ?_;rintro _ w9 ⟨rfl,hw⟩;subst w9;go_wp2_with fail;go_roundw;case rel=>exact ⟨j+1,by go_num,J1,by trivial⟩
         case measure=>have:=J1.out;simp [intOf];omega
        ·have d5:decide ((j:Int)<3)=false:=Λ (by omega);have d5':decide (j<3)=false:=Λ hj;have R1:Hid (r+1≤2):=Ξ (by have:=HR2.out;omega);clear hj;go_wp2_with fail;go_roundw;case rel=>exact ⟨r+1,by go_num,R1,RM⟩
         case measure=>have:=R1.out;simp [intOf];omega
    ·have d3:decide ((r:Int)<2)=false:=Λ (by omega);have d3':decide (r<2)=false:=Λ hr;have BL:=Ξ RD.out.1;have KN:=Ξ (known_z w3);clear hr RD HR;go_wp2_with fail;refine KN.out.mono ?_;rintro _ w9 ⟨rfl,hb⟩;have BE:=Ξ (BL.out.trans (hb.mono BL.out.size));clear hb;go_wp2_with fail;go_ret;exact ⟨rfl,BE.out⟩
  ·have d2:decide ((200000:Int)<T)=true:=Γ (by omega);have KN:=Ξ (known_z w1);clear ht hT;go_wp2_with fail;refine KN.out.mono ?_;rintro _ w9 ⟨rfl,hb⟩;have BE:=Ξ hb;clear hb;go_wp2_with fail;go_ret;exact ⟨rfl,BE.out⟩
 ·have d1:decide ((60:Int)<(n0:Int))=true:=Γ (by omega);have d1':decide (60<n0)=true:=Γ (by omega);have KN:=Ξ (known_z W);clear h0 hn;go_enter Tryz.func9,Tryz.ntmps9;go_wp2_with fail;refine KN.out.mono ?_;rintro _ w9 ⟨rfl,hb⟩;have BE:=Ξ hb;clear hb;go_wp2_with fail;go_ret;exact ⟨rfl,BE.out⟩
theorem own:ownKnob Tryz.prog.godebug=none:=by kernel_rfl
theorem laidOut:laidOutB Tryz.prog=true:=by kernel_rfl
theorem contract(H:Type)(enc:TypeId×Value→H)(W:World)(base:Nat)(args:Array Value)(ds gs:List (DataW H))(before:List MemPlace)
  (hval0:∀ (j:Nat) t v,Tryz.f9.params[j]? = some t→args[j]? = some v→Value.okWide Tryz.prog W .any base t v)
  (hW:DataW.Whole enc Tryz.prog Tryz.f9.params.toList Rows.schedRunsSpec.vars false W args.toList ds gs before)
  (hsz0:(DataW.weightsEach Tryz.prog (Tryz.f9.params.toList++Rows.schedRunsSpec.plain.varTypes Tryz.prog) (ds++gs)).all (·≤reachBytes)=true) :
  Calls Tryz.prog 9 args W fun e W'=>∃ v,e=.returned v∧Rows.schedRunsSpec.post enc Tryz.prog Tryz.f9 false true false false W args v W':=by
 have hval:∀ (j:Nat) t v,Tryz.f9.params[j]? = some t→args[j]? = some v→Value.okWide Tryz.prog W .any base t v:=hval0;have hW':=hW;obtain ⟨p,q,hA0,hV,rfl,hfz,hnd⟩:=hW;have hA:DataW.TrodAll enc Tryz.prog W 0 (fun _=>true) true Tryz.f9.params.toList args.toList ds p:=hA0;have hsz:(DataW.weightsEach Tryz.prog (Tryz.f9.params.toList++Rows.schedRunsSpec.plain.varTypes Tryz.prog) (ds++gs)).all (·≤reachBytes)=true:=hsz0;rw [Tryz.params9] at hA hval hsz;obtain ⟨v0,vs0,d0,ds0,p0,q0,hargs,rfl,rfl,h0,r0'⟩:=trodAll_cons hA;obtain ⟨rfl,rfl,rfl⟩:=trodAll_nil r0';obtain rfl:args=#[v0]:=by cases args;simp_all
 obtain ⟨rfl,rfl⟩:=trodVars_none hV;have k0:=h0;have lt0:∀ x∈p0,x.block<W.heap.size:=by obtain ⟨m,hm⟩:=k0;exact DataW.trod_lt m _ _ _ hm
 obtain ⟨a0,n0,c0,rfl⟩:=okWide_slice Tryz.underlying76 (hval 0 76 v0 rfl rfl);obtain ⟨z0,w0⟩:∃ zs,EvsIn W a0 n0 zs:=by obtain ⟨fuel,hf⟩:=h0;simp [Value.cells] at hf;exact evs_in hf fun N hN=>of_decide_eq_true (List.all_eq_true.1 hsz _ (DataW.weights_mem_each (j:=0) (t:=76) rfl rfl N hN))
 clear hA0 hval0 hsz0;refine (walk a0 n0 c0 z0 W w0).mono fun e W' ⟨he,bel⟩=>?_;subst he;exact ⟨_,rfl,_,_,_,[],_,[],hW',trodAll_mk1 (shut_bool Tryz.underlying4 _),(trodAll_cons_mk (Below.trod laidOut (by kernel_rfl) (of_decide_eq_true (by kernel_rfl)) k0 bel lt0) trodAll_mk0),rfl,bel.frame _,fun h=>by cases h⟩
theorem lifted(os:Os)(started:os.Started)(H:Type)(enc:TypeId×Value→H) :
  ReturnsInHanded {} Tryz.checked os 9 .any (Rows.schedRunsSpec.pre6 enc Tryz.prog Tryz.f9 Rows.schedRunsRow.domain false) (Rows.schedRunsSpec.post enc Tryz.prog Tryz.f9 false true false false):=by
 refine returnsInHanded_of_change_sized (C:=Tryz.checked) own started (by kernel_rfl) Tryz.func9
  (ChangeSpec.witness6 (enc:=enc) (C:=Tryz.checked) false ⟨#[],#[.slice none 0 0],[]⟩ 8 (by kernel_rfl) (by kernel_rfl) (by kernel_rfl) (by kernel_rfl)) ?_
 intro W base args ds gs before hval hW _ hsz _;exact contract H enc W base args ds gs before hval hW hsz
theorem over:Rows.schedRunsRow.holds Tryz.pinned (OpenSpec.ofChange Rows.schedRunsSpec):=
 OpenClaim.holds_of_wide 9 Tryz.f9 rfl rfl rfl rfl rfl rfl rfl ⟨rfl,rfl,rfl,rfl,rfl⟩ rfl rfl rfl rfl rfl (by kernel_rfl) Tryz.func9 (by kernel_rfl)
  (of_decide_eq_true (by kernel_rfl)) (by unfold Func.isWrapper;first|(rw [if_pos (by decide +kernel)];kernel_rfl)|(rw [if_neg (by decide +kernel)];exact ⟨rfl,rfl⟩))
  (fun os started H enc _=>lifted os started H enc)
theorem proved:Rows.SchedRunsSaid:=over
#print axioms proved
end Go.Proofs.YtcgmgdjeamidlaaGreat.schedRuns
