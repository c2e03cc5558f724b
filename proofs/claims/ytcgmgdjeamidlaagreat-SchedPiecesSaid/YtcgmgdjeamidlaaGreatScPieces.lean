/- Texts of one proof, joined. -/
import Derived.Test.YtcgmgdjeamidlaaGreatMg42
namespace Go.Proofs.YtcgmgdjeamidlaaGreat.schedPieces
set_option maxRecDepth 100000
set_option maxHeartbeats 16000000
open Go.ChangeShapes Go.WideShapes Go.ChangeAt Go.RowKit Go.Joins
set_option linter.unusedVariables false
set_option linter.unusedSimpArgs false
def restLen:Value→Nat
 | .slice _ n _=>n
 | _=>0
theorem PcI.cap{c:PcC}{k:Nat}{told:Value}{hh:Int}{s:Sl}{W:World}(h:PcI c k told hh s W):s.xs.length≤s.c∧(hh=0∨hh=3)∧k+s.xs.length≤50000:=by obtain ⟨_,_,_,_,_,_,_,h1,_,_,h2,_,h3,_⟩:=h;exact ⟨h2,h1,h3⟩
theorem PcI.bel{c:PcC}{k:Nat}{told:Value}{hh:Int}{s:Sl}{W W0:World}(h:PcI c k told hh s W)(e:c.W0=W0):Below W0.heap.size W0 W:=by obtain ⟨_,_,_,_,hM,_⟩:=h;rw [←e];exact hM.bl
theorem cut_eq(x:Int)(n:Nat)(h0:0<n)(h1:n≤50000):∃ j:Nat,IntKind.i64.wrap (1+wrap64 ((IntKind.u64.wrap x).tmod (n:Int)))=(j:Int)∧wrap64 (1+wrap64 ((IntKind.u64.wrap x).tmod (n:Int)))=(j:Int)∧1≤j∧j≤n:=by
 have e:IntKind.u64.wrap x=x % 18446744073709551616:=rfl;have p:0≤IntKind.u64.wrap x:=by rw [e];omega
 rw [Int.tmod_eq_emod_of_nonneg p];have a:=Int.emod_nonneg (IntKind.u64.wrap x) (b:=(n:Int)) (by omega);have b:=Int.emod_lt_of_pos (IntKind.u64.wrap x) (b:=(n:Int)) (by omega);generalize IntKind.u64.wrap x % (n:Int)=m at *;obtain ⟨m,rfl⟩:=Int.eq_ofNat_of_zero_le a;have e2:wrap64 ((m:Nat):Int)=(m:Int):=by unfold wrap64;omega
 rw [e2];exact ⟨1+m,by rw [show (1:Int)+(m:Int)=((1+m:Nat):Int) by omega];exact IntWalk.i64_in _ (by omega),by unfold wrap64;omega,by omega,by omega⟩
def Goal(a0:Option Addr)(n0 c0:Nat)(z0:List Int)(a1:Option Addr)(n1 c1:Nat)(z1:List Int)(W:World):Prop:=Calls Tryz.prog 8 #[.slice a0 n0 c0,.slice a1 n1 c1] W fun e w'=>e=.returned (.bool true)∧Below W.heap.size W w'
theorem walk(a0:Option Addr)(n0 c0:Nat)(z0:List Int)(a1:Option Addr)(n1 c1:Nat)(z1:List Int)(W:World)(w0:IsRow .u8 W a0 n0 c0 z0)(r0:c0 * 1≤140737488351232)(w1:IsRow .i64 W a1 n1 c1 z1)(r1:c1 * 8≤140737488351232):Goal a0 n0 c0 z0 a1 n1 c1 z1 W:=by
 unfold Goal;obtain ⟨i0',hi0,hz0,hz1,hz2⟩:=info_parts infoU8;by_cases hn0:n0≤50000
 ·have d1:decide ((50000:Int)<(n0:Int))=false:=Λ (by omega);have d1':decide (50000<n0)=false:=Λ (by omega);have HS:=Ξ (row_rd w0 hn0);have HN0:=Ξ hn0;have W1:=Ξ w1.ints;have WL:=Ξ w1.length;have N1:=Ξ (new_on 2 W (by omega) (by omega));clear w0 w1 r0 r1 hn0;go_enter Tryz.func8,Tryz.ntmps8;go_wp2_with fail;refine N1.out.mono ?_;rintro _ wa ⟨p,F,H,rfl,hd1,hb1⟩;have D1:=Ξ (Ψ hd1 hb1);have N2:=Ξ (new_on 2 wa (by omega) (by omega));clear hd1 hb1 N1;go_wp2_with fail;refine N2.out.mono ?_;rintro _ wb ⟨p2,F2,H2,rfl,hd2,hb2⟩;have D2:=Ξ (Ψ hd2 hb2);have S1:=Ξ (new_z (n:=1) (D1.out.1.only ((Ω [] wa).below hb2) (by simp)) (Nat.le_trans D1.out.2.size hb2.size) (by omega) (by omega) (by omega) (by omega));clear hd2 hb2 N2;go_wp2_with fail;refine S1.out.mono ?_;rintro _ wc ⟨g,Z1,rfl,hz1',hO3,hk1⟩;have D3:=Ξ (Ψ hz1' (Ψ hO3 hk1));have S2:=Ξ (new_z (n:=1) (D2.out.1.only hO3 (by simp)) (Nat.le_trans D2.out.2.size hO3.size) (by omega) (by omega) (by omega) (by omega));clear hz1' hO3 hk1 S1;go_wp2_with fail;refine S2.out.mono ?_;rintro _ wd ⟨g2,Z2,rfl,hz2',hO4,hk2⟩;have D4:=Ξ (Ψ hz2' (Ψ hO4 hk2));obtain ⟨s0,hs0⟩:∃ s:Sl,s=⟨a0,c0,z0.take n0⟩:=⟨_,rfl⟩;have FF:Hid (Calls Tryz.prog 29 #[.pointer (some ⟨g,0,none⟩),.int .i64 0,.slice a0 n0 c0] wd (FedZ W.heap.size W.heap.size p g 1 0 (0,newP 2,List.replicate 1 0) (List.replicate 1 ([],0)) [] s0.xs Z1 wd)):=Ξ (by have k:Only [] W wd:=((((Ω [] W).below D1.out.2).below D2.out.2).trans D3.out.2.1 (by simp)).trans hO4 (by simp);have h:=feed_z (m:=0) (D3.out.1.only hO4 (by simp)) (Nat.le_trans (Nat.le_trans D1.out.2.size D2.out.2.size) (Nat.le_trans D3.out.2.1.size hO4.size)) (q:=[]) rfl (HS.out.1.only k (by simp)) HS.out.2.1 (by have:=HS.out.2.2.1;have:=HN0.out;simp only [List.length_nil];omega) (by have:=HS.out.2.2.1;have:=HN0.out;simp only [List.nil_append];omega);unfold Sl.v at h;simp only [HS.out.2.2.1] at h;rw [hs0];exact h)
  have E0:=Ξ hs0;clear hz2' hO4 hk2 S2 hs0;go_wp2_with fail;refine FF.out.mono ?_;intro e we hF;obtain ⟨c,hok,c1,c2,c3,⟨av,nv,cv,c4,rfl⟩,hI⟩:=pc_start D1.out.1 D1.out.2 D2.out.1 D2.out.2 D3.out.1 D3.out.2.1 D3.out.2.2 D4.out.1 D4.out.2.1 D4.out.2.2 hF (by rw [E0.out];exact HS.out.1) (by rw [E0.out];exact HS.out.2.2.2.2) (by rw [E0.out];exact HS.out.2.1) (by rw [E0.out];exact HS.out.2.2.2.1) (by rw [E0.out];show (z0.take n0).length≤50000;rw [HS.out.2.2.1];exact HN0.out);have HK:=Ξ hok;have HC:=Ξ (Ψ c1 (Ψ c2 (Ψ c3 c4)));have I0:=Ξ hI;have EV:Hid (Value.slice a0 n0 c0=s0.v):=Ξ (by rw [E0.out];unfold Sl.v;simp only [HS.out.2.2.1]);clear hok c1 c2 c3 c4 hI hF FF D2 D3 D4;go_wp2_with fail;go_loopw [15,16,17,18] (fun t h r i wr=>∃ (k:Nat) (s:Sl) (hh:Int),i=.int .i64 (k:Int)∧r=s.v∧h=.int .i64 hh∧Hid (PcI c k t hh s wr)) (fun _ _ r _ _=>restLen r)
  case atStart=>exact ⟨0,s0,0,rfl,EV.out,rfl,I0⟩
  case round=>
   clear I0 EV E0;obtain ⟨k,s,hh,rfl,rfl,rfl,HI⟩:=hrel;rename World=>w3;obtain ⟨n,hn⟩:∃ n,s.xs.length=n:=⟨_,rfl⟩;have HN:=Ξ hn;have HB:=Ξ (PcI.cap HI.out);unfold Sl.v;rw [hn];clear hn;by_cases hgo:¬ n=0∧hh=0
   ·obtain ⟨h0,rfl⟩:=hgo;have d2:decide ((0:Int)<(n:Int))=true:=Γ (by omega);have d2':decide (0<n)=true:=Γ (by omega)
    ·skip;have HP:Hid (0<n):=Ξ (by omega);have wk:IntKind.i64.wrap ((k:Int)+1)=((k+1:Nat):Int):=by rw [show (k:Int)+1=((k+1:Nat):Int) by omega];exact IntWalk.i64_in _ (by have:=HB.out.2.2;omega)
     by_cases hk:k<n1
     ·have d4:decide ((k:Int)<(n1:Int))=true:=Γ (by omega);have d4':decide (k<n1)=true:=Γ hk;have d5:(k:Int)<(n1:Int):=(by omega);have k0:(0:Int)≤(k:Int):=Int.natCast_nonneg _;have HI1:Ints .i64 w3 (.slice a1 n1 c1) (z1.take n1):=W1.out.below (fun b o hb=>(PcI.bel HI.out HC.out.1).cell (p:=⟨b,o,none⟩) hb);rcases HI1 with ⟨hx,_⟩|⟨bb,off,cap,he,hcell⟩
      ·have:=WL.out;rw [hx] at this;simp at this;omega
      simp only [Value.slice.injEq] at he;obtain ⟨rfl,hx9,rfl⟩:=he;clear hx9;have cx:=hcell k (by rw [WL.out];exact hk);generalize (z1.take n1)[k]?.getD 0=x at cx;obtain ⟨j,j1,j2,j3,j4⟩:=cut_eq x n HP.out (by have:=HB.out.2.2;have:=HN.out;omega);have un:IntKind.u64.wrap (n:Int)=(n:Int):=by rw [show IntKind.u64.wrap (n:Int)=(n:Int) % 18446744073709551616 from rfl];have:=HB.out.2.2;have:=HN.out;omega
      have nz:((n:Int) == 0)=false:=by have:=HP.out;simp;omega
      have nz':decide ((n:Int)=0)=false:=Λ (by have:=HP.out;omega);have J3:=Ξ j3;have J4:Hid (j≤s.xs.length):=Ξ (by rw [HN.out];exact j4);clear hcell hk j3 j4;have RD:=Ξ (pc_round HK.out HI.out J3.out J4.out);rw [HC.out.2.2.1] at RD;have e1:∀ y:World,(Instr.slice 30 (.slice s.a n s.c) none (some (.int .i64 (j:Int))) none).run Tryz.prog y=.ok (s.cut 0 j).v y:=fun y=>by have h:=run_head Tryz.underlying30 infoBy .i64 s J4.out HB.out.1 y;rw [HN.out] at h;exact h
      have e2:∀ y:World,(Instr.slice 30 (.slice s.a n s.c) (some (.int .i64 (j:Int))) none none).run Tryz.prog y=.ok (s.cut j n).v y:=fun y=>by have h:=run_tail Tryz.underlying30 infoBy .i64 s J4.out y;rw [HN.out] at h;exact h
      obtain ⟨v1,hv1⟩:∃ v,v=(s.cut 0 j).v:=⟨_,rfl⟩;obtain ⟨v2,hv2⟩:∃ v,v=(s.cut j n).v:=⟨_,rfl⟩;rw [←hv1] at e1 RD;rw [←hv2] at e2;rw [HN.out] at RD;have V2:=Ξ hv2;have LJ:Hid ((s.cut j n).xs.length<n):=Ξ (by have h:=Sl.cut_len s (l:=j) (h:=n) (by have h1:=J4.out;rw [HN.out] at h1;exact h1) (by rw [HN.out];exact Θ _);rw [h];have h2:1≤j:=J3.out;have:=HP.out;omega);clear hv1 hv2;go_wp2_with fail;refine RD.out.mono ?_;rintro _ w4 ⟨xa,xn,xc,ox,er',ot,rfl,hsrc,how,hbn,hnext⟩;have SR:=Ξ hsrc;have OW:=Ξ how;have BN:=Ξ hbn;have NX:=Ξ hnext;clear hsrc how hbn hnext RD;go_wp2_with (at_builtin;refine wpList_append_srcb rfl (.tmp 93) (.tmp 94) 30 rfl c.D 5 i0' (.int .u8 0) 1 1 Tryz.underlying30 hi0 hz0 hz1 hz2 rfl (by decide) u15 ot.length _ rfl OW.out (.slice xa xn xc) xn (ox.map (Value.int .u8)) rfl SR.out (by simp [Value.oneCell']) (by have:=BN.out.1;unfold maxLen;omega) (by have:=BN.out.1;omega) BN.out.2 ?more);case more=>
       intro v5 w5 hown5 hg5 hf5;have F5:=Ξ (NX.out v5 w5 hown5 hg5 hf5);clear hown5 hg5 hf5;go_wp2_with fail;go_roundw;case rel=>exact ⟨k+1,s.cut j n,er',by go_num,V2.out,rfl,F5⟩
       case measure=>rw [V2.out];show (s.cut j n).xs.length<n;exact LJ.out
     ·have d4:decide ((k:Int)<(n1:Int))=false:=Λ (by omega);have d4':decide (k<n1)=false:=Λ hk;have J4:Hid (n≤s.xs.length):=Ξ (by rw [HN.out];exact Θ _);have J3:Hid (1≤n):=HP;clear hk;have RD:=Ξ (pc_round HK.out HI.out J3.out J4.out);rw [HC.out.2.2.1] at RD;have e1:∀ y:World,(Instr.slice 30 (.slice s.a n s.c) none (some (.int .i64 (n:Int))) none).run Tryz.prog y=.ok (s.cut 0 n).v y:=fun y=>by have h:=run_head Tryz.underlying30 infoBy .i64 s J4.out HB.out.1 y;rw [HN.out] at h;exact h
      have e2:∀ y:World,(Instr.slice 30 (.slice s.a n s.c) (some (.int .i64 (n:Int))) none none).run Tryz.prog y=.ok (s.cut n n).v y:=fun y=>by have h:=run_tail Tryz.underlying30 infoBy .i64 s J4.out y;rw [HN.out] at h;exact h
      obtain ⟨v1,hv1⟩:∃ v,v=(s.cut 0 n).v:=⟨_,rfl⟩;obtain ⟨v2,hv2⟩:∃ v,v=(s.cut n n).v:=⟨_,rfl⟩;rw [←hv1] at e1 RD;rw [←hv2] at e2;rw [HN.out] at RD;have V2:=Ξ hv2;have LJ:Hid ((s.cut n n).xs.length<n):=Ξ (by have h:=Sl.cut_len s (l:=n) (h:=n) (by have h1:=J4.out;rw [HN.out] at h1;exact h1) (by rw [HN.out];exact Θ _);rw [h];have h2:1≤n:=J3.out;have:=HP.out;omega);clear hv1 hv2;go_wp2_with fail;refine RD.out.mono ?_;rintro _ w4 ⟨xa,xn,xc,ox,er',ot,rfl,hsrc,how,hbn,hnext⟩;have SR:=Ξ hsrc;have OW:=Ξ how;have BN:=Ξ hbn;have NX:=Ξ hnext;clear hsrc how hbn hnext RD;go_wp2_with (at_builtin;refine wpList_append_srcb rfl (.tmp 93) (.tmp 94) 30 rfl c.D 5 i0' (.int .u8 0) 1 1 Tryz.underlying30 hi0 hz0 hz1 hz2 rfl (by decide) u15 ot.length _ rfl OW.out (.slice xa xn xc) xn (ox.map (Value.int .u8)) rfl SR.out (by simp [Value.oneCell']) (by have:=BN.out.1;unfold maxLen;omega) (by have:=BN.out.1;omega) BN.out.2 ?more);case more=>
       intro v5 w5 hown5 hg5 hf5;have F5:=Ξ (NX.out v5 w5 hown5 hg5 hf5);clear hown5 hg5 hf5;go_wp2_with fail;go_roundw;case rel=>exact ⟨k+1,s.cut n n,er',by go_num,V2.out,rfl,F5⟩
       case measure=>rw [V2.out];show (s.cut n n).xs.length<n;exact LJ.out
   ·have WH:Hid (s.xs=[]∨hh≠0):=Ξ (by
     by_cases h0:n=0
     ·exact .inl (List.length_eq_zero_iff.1 (by rw [HN.out];exact h0))
     ·exact .inr fun h=>hgo ⟨h0,h⟩)
    have h4:(hh=0∧decide ((0:Int)<(n:Int))=false∧decide (0<n)=false)∨(hh=3∧decide ((0:Int)<(n:Int))=false∧decide (0<n)=false)∨(hh=3∧decide ((0:Int)<(n:Int))=true∧decide (0<n)=true):=by
     by_cases h0:n=0
     ·exact HB.out.2.1.elim (fun h=>.inl ⟨h,Λ (by omega),Λ (by omega)⟩) fun h=>.inr (.inl ⟨h,Λ (by omega),Λ (by omega)⟩)
     ·exact .inr (.inr ⟨HB.out.2.1.resolve_left fun h=>hgo ⟨h0,h⟩,Γ (by omega),Γ (by omega)⟩)
    clear hgo;rcases h4 with ⟨rfl,d2,d2'⟩|⟨rfl,d2,d2'⟩|⟨rfl,d2,d2'⟩;all_goals
     obtain ⟨u,fA,fT,fe,t1,t2,cl1,cl2,fb⟩:=pc_fin HK.out HI.out WH.out;have C1:=conv_ints fA;have C2:=conv_ints fT;rw [HC.out.2.2.2] at C1;generalize strOfNums c.o=S0 at *;rw [HC.out.2.1] at t1 cl1;rw [HC.out.2.2.1] at t2 cl2;rw [HC.out.1] at fb;first
      | rw [show decide ((0:Int)≠0)=false by decide] at cl1 cl2
      | rw [show decide ((3:Int)≠0)=true by decide] at cl1 cl2
     have T1:=Ξ t1;have T2:=Ξ t2;have L1:=Ξ cl1;have L2:=Ξ cl2;have FB:=Ξ fb;rw [fe];clear fA fT fe t1 t2 cl1 cl2 fb;go_wp2_with fail;refine T1.out.mono ?_;rintro _ w' ⟨rfl,hw'⟩;subst w';go_wp2_with fail;refine T2.out.mono ?_;rintro _ w' ⟨rfl,hw'⟩;subst w';go_wp2_with fail;refine L1.out.mono ?_;rintro _ w' ⟨rfl,hw'⟩;subst w';go_wp2_with fail;refine L2.out.mono ?_;rintro _ w' ⟨rfl,hw'⟩;subst w';go_wp2_with fail;refine (known_z _).mono ?_;rintro _ w9 ⟨rfl,hb9⟩;have H9:=Ξ hb9;clear hb9;go_wp2_with fail;go_ret;exact ⟨rfl,FB.out.trans (H9.out.mono FB.out.size)⟩
 ·have d1:decide ((50000:Int)<(n0:Int))=true:=Γ (by omega);have d1':decide (50000<n0)=true:=Γ (by omega);clear w0 w1 r0 r1 hn0;go_enter Tryz.func8,Tryz.ntmps8;go_wp2_with fail;refine (known_z W).mono ?_;rintro _ w9 ⟨rfl,hb9⟩;have H9:=Ξ hb9;clear hb9;go_wp2_with fail;go_ret;exact ⟨rfl,H9.out⟩
theorem own:ownKnob Tryz.prog.godebug=none:=by kernel_rfl
theorem laidOut:laidOutB Tryz.prog=true:=by kernel_rfl
theorem contract(H:Type)(enc:TypeId×Value→H)(W:World)(base:Nat)(args:Array Value)(ds gs:List (DataW H))(before:List MemPlace)
  (hval0:∀ (j:Nat) t v,Tryz.f8.params[j]? = some t→args[j]? = some v→Value.okWide Tryz.prog W .any base t v)
  (hW:DataW.Whole enc Tryz.prog Tryz.f8.params.toList Rows.schedPiecesSpec.vars false W args.toList ds gs before)
  (hsz0:(DataW.weightsEach Tryz.prog (Tryz.f8.params.toList++Rows.schedPiecesSpec.plain.varTypes Tryz.prog) (ds++gs)).all (·≤reachBytes)=true) :
  Calls Tryz.prog 8 args W fun e W'=>∃ v,e=.returned v∧Rows.schedPiecesSpec.post enc Tryz.prog Tryz.f8 false true false false W args v W':=by
 have hval:∀ (j:Nat) t v,Tryz.f8.params[j]? = some t→args[j]? = some v→Value.okWide Tryz.prog W .any base t v:=hval0;have hW':=hW;obtain ⟨p,q,hA0,hV,rfl,hfz,hnd⟩:=hW;have hA:DataW.TrodAll enc Tryz.prog W 0 (fun _=>true) true Tryz.f8.params.toList args.toList ds p:=hA0;have hsz:(DataW.weightsEach Tryz.prog (Tryz.f8.params.toList++Rows.schedPiecesSpec.plain.varTypes Tryz.prog) (ds++gs)).all (·≤reachBytes)=true:=hsz0;rw [Tryz.params8] at hA hval hsz;obtain ⟨v0,vs0,d0,ds0,p0,q0,hargs,rfl,rfl,h0,r0'⟩:=trodAll_cons hA;obtain ⟨v1,vs1,d1,ds1,p1,q1,rfl,rfl,rfl,h1,r1'⟩:=trodAll_cons r0';obtain ⟨rfl,rfl,rfl⟩:=trodAll_nil r1';obtain rfl:args=#[v0,v1]:=by cases args;simp_all
 obtain ⟨rfl,rfl⟩:=trodVars_none hV;have k0:=h0;have lt0:∀ x∈p0,x.block<W.heap.size:=by obtain ⟨m,hm⟩:=k0;exact DataW.trod_lt m _ _ _ hm
 have k1:=h1;have lt1:∀ x∈p1,x.block<W.heap.size:=by obtain ⟨m,hm⟩:=k1;exact DataW.trod_lt m _ _ _ hm
 obtain ⟨a0,n0,c0,rfl⟩:=okWide_slice Tryz.underlying30 (hval 0 30 v0 rfl rfl);obtain ⟨z0,w0,r0⟩:∃ zs,IsRow .u8 W a0 n0 c0 zs∧c0 * 1≤140737488351232:=by
  obtain ⟨fuel,hf⟩:=h0;rcases open_ints Tryz.underlying30 Tryz.underlying5 (by kernel_rfl) hf with ⟨hcs,_⟩|⟨x,l,c,zs,hcs,_,hl,hm,hz,hx,hcell,hwz⟩
  ·simp [Value.cells] at hcs;obtain ⟨rfl,rfl,rfl⟩:=hcs;exact ⟨[],.inl ⟨rfl,rfl,rfl,rfl⟩,by omega⟩
  ·simp [Value.cells] at hcs;obtain ⟨rfl,rfl,rfl⟩:=hcs;simp only [Prod.mk.injEq] at hx;have hz':zs.length=c0:=by simpa using hz
   have hs:=sized_slice hsz (j:=0) (t:=30) rfl (congrArg some hx.1) Tryz.underlying30;rw [show Tryz.prog.bytesOf 5 = 1 from by kernel_rfl] at hs;simp only [lits,List.length_map,List.length_take,List.length_drop,reachBytes] at hs;exact ⟨zs,.inr ⟨_,rfl,hl,hm,hz',hcell,hwz⟩,by omega⟩
 obtain ⟨a1,n1,c1,rfl⟩:=okWide_slice Tryz.underlying97 (hval 1 97 v1 rfl rfl);obtain ⟨z1,w1,r1⟩:∃ zs,IsRow .i64 W a1 n1 c1 zs∧c1 * 8≤140737488351232:=by
  obtain ⟨fuel,hf⟩:=h1;rcases open_ints Tryz.underlying97 Tryz.underlying3 (by kernel_rfl) hf with ⟨hcs,_⟩|⟨x,l,c,zs,hcs,_,hl,hm,hz,hx,hcell,hwz⟩
  ·simp [Value.cells] at hcs;obtain ⟨rfl,rfl,rfl⟩:=hcs;exact ⟨[],.inl ⟨rfl,rfl,rfl,rfl⟩,by omega⟩
  ·simp [Value.cells] at hcs;obtain ⟨rfl,rfl,rfl⟩:=hcs;simp only [Prod.mk.injEq] at hx;have hz':zs.length=c1:=by simpa using hz
   have hs:=sized_slice hsz (j:=1) (t:=97) rfl (congrArg some hx.1) Tryz.underlying97;rw [show Tryz.prog.bytesOf 3 = 8 from by kernel_rfl] at hs;simp only [lits,List.length_map,List.length_take,List.length_drop,reachBytes] at hs;exact ⟨zs,.inr ⟨_,rfl,hl,hm,hz',hcell,hwz⟩,by omega⟩
 clear hA0 hval0 hsz0;refine (walk a0 n0 c0 z0 a1 n1 c1 z1 W w0 r0 w1 r1).mono fun e W' ⟨he,bel⟩=>?_;subst he;exact ⟨_,rfl,_,_,_,[],_,[],hW',trodAll_mk1 (shut_bool Tryz.underlying4 _),(trodAll_cons_mk (Below.trod laidOut (by kernel_rfl) (of_decide_eq_true (by kernel_rfl)) k0 bel lt0) (trodAll_cons_mk (Below.trod laidOut (by kernel_rfl) (of_decide_eq_true (by kernel_rfl)) k1 bel lt1) trodAll_mk0)),rfl,bel.frame _,fun h=>by cases h⟩
theorem lifted(os:Os)(started:os.Started)(H:Type)(enc:TypeId×Value→H) :
  ReturnsInHanded {} Tryz.checked os 8 .any (Rows.schedPiecesSpec.pre6 enc Tryz.prog Tryz.f8 Rows.schedPiecesRow.domain false) (Rows.schedPiecesSpec.post enc Tryz.prog Tryz.f8 false true false false):=by
 refine returnsInHanded_of_change_sized (C:=Tryz.checked) own started (by kernel_rfl) Tryz.func8
  (ChangeSpec.witness6 (enc:=enc) (C:=Tryz.checked) false ⟨#[],#[.slice none 0 0,.slice none 0 0],[]⟩ 8 (by kernel_rfl) (by kernel_rfl) (by kernel_rfl) (by kernel_rfl)) ?_
 intro W base args ds gs before hval hW _ hsz _;exact contract H enc W base args ds gs before hval hW hsz
theorem over:Rows.schedPiecesRow.holds Tryz.pinned (OpenSpec.ofChange Rows.schedPiecesSpec):=
 OpenClaim.holds_of_wide 8 Tryz.f8 rfl rfl rfl rfl rfl rfl rfl ⟨rfl,rfl,rfl,rfl,rfl⟩ rfl rfl rfl rfl rfl (by kernel_rfl) Tryz.func8 (by kernel_rfl)
  (of_decide_eq_true (by kernel_rfl)) (by unfold Func.isWrapper;first|(rw [if_pos (by decide +kernel)];kernel_rfl)|(rw [if_neg (by decide +kernel)];exact ⟨rfl,rfl⟩))
  (fun os started H enc _=>lifted os started H enc)
theorem proved:Rows.SchedPiecesSaid:=over
#print axioms proved
end Go.Proofs.YtcgmgdjeamidlaaGreat.schedPieces
