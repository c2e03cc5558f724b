/- Printed small by mini.py. -/
import Derived.Test.YtcgmgdjeamidlaaGreatQfA
import Derived.Test.YtcgmgdjeamidlaaGreatMg38
namespace Go.Proofs.YtcgmgdjeamidlaaGreat
set_option maxRecDepth 100000
set_option maxHeartbeats 16000000
open Go.RowKit Go.ChangeShapes Go.WideShapes Go.ChangeAt Go.Proofs.Tryz
set_option linter.unusedVariables false
set_option linter.unusedSimpArgs false
set_option maxHeartbeats 2000000
theorem ret_q{a b c a' b' c':Int}(h1:a=a')(h2:b=b')(h3:c=c'):Ending.returned (.tuple #[.int .i32 a,.int .i64 b,.int .i64 c])=.returned (.tuple #[.int .i32 a',.int .i64 b',.int .i64 c']):=by rw [h1,h2,h3]
def QR(x k v m e:Int)(w:World):Prop:=Calls prog 43 #[.int .u64 x,.int .i64 k] w fun e' w'=>e'=.returned (.tuple #[.int .i32 v,.int .i64 m,.int .i64 e])∧w'=w
theorem rq_bad(x k kd sg v m e:Int)(w:World)(HK:Hid (∀ w,Calls prog 83 #[.int .u64 x] w fun e w'=>e=.returned (.int .i64 kd)∧w'=w))(s:bits .and .u64 x 9223372036854775808=sg)(h1 : -64≤k)(h2:k≤64)
  (h:(kd=5∧sg=0∧v=0∧m=0∧e=10)∨(kd=5∧sg=9223372036854775808∧v=0∧m=0∧e=10)∨(kd=4∧sg=0∧v=2147483647∧m=2∧e=0)∨(kd=4∧sg=9223372036854775808∧v = -2147483648∧m=2∧e=0)):QR x k v m e w:=by
 unfold QR;rcases h with ⟨rfl,rfl,rfl,rfl,rfl⟩|⟨rfl,rfl,rfl,rfl,rfl⟩|⟨rfl,rfl,rfl,rfl,rfl⟩|⟨rfl,rfl,rfl,rfl,rfl⟩;all_goals
  go_enter func43,ntmps43;go_wp2_with fail;refine (HK.out _).mono ?_;rintro _ w' ⟨rfl,rfl⟩;go_wp2_with fail
  go_ret3
  exact ⟨ret_q (by first|rfl|omega) (by first|rfl|omega) rfl,rfl⟩
theorem rq_fin(x k kd sg m e N v mk:Int)(ex:Bool)(w:World)(HK:Hid (∀ w,Calls prog 83 #[.int .u64 x] w fun e w'=>e=.returned (.int .i64 kd)∧w'=w))(s:bits .and .u64 x 9223372036854775808=sg)(k5:(kd == 5)=false)(k4:(kd == 4)=false)(h1 : -64≤k)(h2:k≤64)(e1 : -1100≤e)(e2:e≤1000)(HP:Hid (∀ w,Calls prog 84 #[.int .u64 x] w fun e' w'=>e'=.returned (.tuple #[.int .u64 m,.int .i64 e])∧w'=w))(HN:Hid (∀ w,Calls prog 85 #[.int .u64 m,.int .i64 (e+k)] w fun e' w'=>e'=.returned (.tuple #[.int .u64 N,.bool ex])∧w'=w))(n2:N≤1000000000000000000)
  (h:(sg=0∧2147483647<N∧v=2147483647∧mk=2)∨(sg=0∧(0≤N∧N≤2147483647)∧v=N∧mk=if ex then 0 else 1)∨(sg=9223372036854775808∧2147483648<N∧v = -2147483648∧mk=2)∨(sg=9223372036854775808∧N=0∧v=0∧mk=if ex then 4 else 5)∨(sg=9223372036854775808∧(0<N∧N≤2147483648∧(N == 0)=false)∧v = -N∧mk=if ex then 0 else 1)):QR x k v mk 0 w:=by
 unfold QR;have b4:bits .or .i64 0 4=4:=by decide
 have b5:bits .or .i64 1 4=5:=by decide
 cases ex;all_goals
  rcases h with ⟨rfl,n1,rfl,rfl⟩|⟨rfl,⟨n0,n1⟩,rfl,rfl⟩|⟨rfl,n1,rfl,rfl⟩|⟨rfl,rfl,rfl,rfl⟩|⟨rfl,⟨n0,n1,nz⟩,rfl,rfl⟩;all_goals
   go_enter func43,ntmps43;go_wp2_with fail;refine (HK.out _).mono ?_;rintro _ w' ⟨rfl,rfl⟩;go_wp2_with fail;refine (HP.out _).mono ?_;rintro _ w' ⟨rfl,rfl⟩;go_wp2_with fail;refine (HN.out _).mono ?_;rintro _ w' ⟨rfl,rfl⟩;go_wp2_with fail
   go_ret3
   exact ⟨ret_q (by first|rfl|omega) (by first|rfl|omega) rfl,rfl⟩
theorem lim_ok{m:Nat}{p:Int}{N:Nat}{ex:Bool}(h:NearOk m p N ex)(s:Bool):limV s N=limV s (nearG m p).1∧limM s N ex=limM s (nearG m p).1 (nearG m p).2:=by
 obtain ⟨h1,h2,h3⟩:=h;rw [←h1];rcases h3 with h3|⟨h3,h4⟩
 ·rw [h3];exact ⟨rfl,rfl⟩
 ·unfold limV limM;rw [h3];cases s
  ·simp only [Bool.false_eq_true,if_false];rw [if_pos (by omega),if_pos (by omega),if_pos (by omega),if_pos (by omega)];exact ⟨rfl,rfl⟩
  ·simp only [if_true];rw [if_pos (by omega),if_pos (by omega),if_pos (by omega),if_pos (by omega)];exact ⟨rfl,rfl⟩
theorem rquant_any(x:Nat)(k:Int)(w:World)(hx:x<18446744073709551616)(h1 : -64≤k)(h2:k≤64):QR x k (quantG x k).1 (quantG x k).2.1 (quantG x k).2.2 w:=by
 have HK:=Ξ (fun w=>rkind_any x w hx);have hkd:=kind_rg x;obtain ⟨sg,hs⟩:∃ sg,bits .and .u64 (x:Int) 9223372036854775808=sg:=⟨_,rfl⟩;have hsg:(Fl.sg x=false∧sg=0)∨(Fl.sg x=true∧sg=9223372036854775808):=by
  by_cases h:Fl.sg x=true
  ·exact .inr ⟨h,hs.symm.trans (hiand_hi x (by unfold Fl.sg at h;simp at h;omega) (by omega))⟩
  ·exact .inl ⟨by simpa using h,hs.symm.trans (hiand_lo x (by omega) (by unfold Fl.sg at h;simp at h;omega))⟩
 unfold quantG;rw [if_neg (by omega)];by_cases hn:9218868437227405312<Fl.rg x
 ·rw [if_pos hn] at hkd ⊢;refine rq_bad x k _ sg _ _ _ w HK hs h1 h2 ?_;rcases hsg with ⟨_,h⟩|⟨_,h⟩
  ·exact .inl ⟨hkd,h,rfl,rfl,rfl⟩
  ·exact .inr (.inl ⟨hkd,h,rfl,rfl,rfl⟩)
 ·rw [if_neg hn] at hkd ⊢;by_cases hi:Fl.rg x=9218868437227405312
  ·rw [if_pos hi] at hkd ⊢;refine rq_bad x k _ sg _ _ _ w HK hs h1 h2 ?_;rcases hsg with ⟨e,h⟩|⟨e,h⟩
   ·exact .inr (.inr (.inl ⟨hkd,h,by rw [e];rfl,rfl,rfl⟩))
   ·exact .inr (.inr (.inr ⟨hkd,h,by rw [e];rfl,rfl,rfl⟩))
  ·rw [if_neg hi] at hkd ⊢;have k5:(kindF x == 5)=false:=by rw [hkd];(repeat' split)<;>rfl
   have k4:(kindF x == 4)=false:=by rw [hkd];(repeat' split)<;>rfl
   obtain ⟨r1,r2,r3,r4,r5,_⟩:=Fl.rung_eq x;obtain ⟨N,ex,hN,hok⟩:=near_any (Fl.mM x) ((Fl.mE x:Int)-1075+k) r2 (by omega);have hlim:=lim_ok hok (Fl.sg x);have HP:=Ξ (fun w=>parts_any x w hx);have HN:=Ξ hN;have hNb:=hok.2.1;show QR x k (limV _ _) (limM _ _ _) 0 w;rw [←hlim.1,←hlim.2];refine rq_fin x k _ sg _ _ N _ _ ex w HK hs k5 k4 h1 h2 (by omega) (by omega) HP HN (by omega) ?_;unfold limV limM;rcases hsg with ⟨e,h⟩|⟨e,h⟩
   ·rw [e];simp only [Bool.false_eq_true,if_false];by_cases hb:2147483647<N
    ·exact .inl ⟨h,by omega,if_pos hb,if_pos hb⟩
    ·exact .inr (.inl ⟨h,⟨by omega,by omega⟩,if_neg hb,if_neg hb⟩)
   ·rw [e];simp only [if_true];by_cases hb:2147483648<N
    ·exact .inr (.inr (.inl ⟨h,by omega,if_pos hb,if_pos hb⟩))
    ·rw [if_neg hb,if_neg hb];by_cases hz:N=0
     ·subst hz;exact .inr (.inr (.inr (.inl ⟨h,rfl,rfl,by cases ex<;>rfl⟩)))
     ·rw [if_neg hz];exact .inr (.inr (.inr (.inr ⟨h,⟨by omega,by omega,by simpa using hz⟩,rfl,by cases ex<;>rfl⟩)))
theorem rall_go(b off cap n:Nat)(k:Int)(l:List Nat)(vs:List Int)(m q er:Int)(w:World)(hx:∀ x∈l,x<18446744073709551616)(hl:l.length=n)(hcell:∀ i,i<n→w.cell? ⟨b,off+i,none⟩=some (.int .u64 ((nats l)[i]?.getD 0)))(hbw:b<w.heap.size)(n0:0<n)(n1:n≤4096)(k1 : -64≤k)(k2:k≤64)(hE:Hid (AllEnds k l vs m q er)) :
  AllC 17 (.slice (some ⟨b,off,none⟩) n cap) k vs m q er w:=by
 unfold AllC;have HC:=Ξ hcell;have HX:=Ξ hx;have HL:=Ξ hl;have HB:=Ξ hbw;obtain ⟨i0,hi0,hz0,hz1,hz2⟩:=info_parts infoI32;clear hcell hx hl hbw;have q1:decide ((n:Int)<1)=false:=Λ (by omega);have q2:decide ((4096:Int)<(n:Int))=false:=Λ (by omega);go_enter func17,ntmps17;go_wp2_with fail;go_loopw [8,9,10] (fun o t u wr=>∃ i:Nat,i≤n∧u=.int .i64 i∧t=.int .i64 (markL k (l.take i))∧Hid (okL k (l.take i))∧Hid (wr.ownsRow w.heap.size 21 1 o i ((valL k (l.take i)).map (Value.int .i32)))∧Hid (Below w.heap.size w wr)) (fun _ _ u _=>n-(intOf u).toNat)
 case atStart=>exact ⟨0,Nat.zero_le _,rfl,rfl,Ξ (by intro x hx;simp at hx),Ξ (own_none w),Ξ (Δ _ _)⟩
 case round=>
  obtain ⟨i,hin,rfl,rfl,OK,OI,BI⟩:=hrel;by_cases hlt:i<n
  ·have hil:i<l.length:=by rw [HL.out];exact hlt
   have HQ:=Ξ (fun w=>rquant_any l[i] k w (HX.out _ (List.getElem_mem hil)) k1 k2);have C:=HC.out i hlt;rw [nats_at l i hil,←BI.out.cell (p:=⟨b,off+i,none⟩) HB.out] at C;obtain ⟨wf1,wf2,wf3,wf4,wf5,wf6⟩:=quantG_wf l[i] k;have HM:=Ξ (markL_snoc k (l.take i) l[i]);rw [←List.take_succ_eq_append_getElem hil] at HM;have HV:=Ξ (valL_snoc k (l.take i) l[i]);rw [←List.take_succ_eq_append_getElem hil] at HV;by_cases h0:(quantG l[i] k).2.2=0
   ·have OK2:=Ξ (take_ok OK.out hil h0);rw [h0] at HQ;generalize (quantG l[i] k).1=qv at *;generalize (quantG l[i] k).2.1=qm at *;clear h0 wf5 wf6;go_wp2_with fail;refine (HQ.out _).mono ?_;rintro _ w2 ⟨rfl,rfl⟩;go_wp2_with (at_builtin;refine wpList_append_src rfl (.tmp 48) (.tmp 50) 35 rfl w.heap.size 21 i0 (.int .i32 0) 1 4 underlying35 hi0 hz0 hz1 hz2 rfl (by decide) _ i ((valL k (l.take i)).map (Value.int .i32)) rfl (OI.out.alloc _) _ 1 [.int .i32 qv] rfl ?s1 ?s2 ?s3 ?s4 ?s5 ?s6);case s1=>exact .inr ⟨_,_,rfl,rfl,fun q u hq=>by rcases q with _|q<;>simp at hq<;>subst hq<;>simp [go_sem]⟩
    case s2=>simp [Value.oneCell']
    case s3=>unfold maxLen;omega
    case s4=>omega
    case s5=>have:=BI.out.size;simp;omega
    case s6=>
     intro v2 w3 hown2 hg2;have b2:Below w.heap.size w w3:=(BI.out.alloc BI.out.size _).grown hg2 (by have:=BI.out.size;simp;omega) (fun k hk=>(OI.out.lt k hk).1);have O3:Hid (w3.ownsRow w.heap.size 21 1 v2 (i+1) ((valL k (l.take (i+1))).map (Value.int .i32))):=Ξ (by rw [HV.out,List.map_append];exact hown2);have B3:=Ξ b2;clear hown2 hg2 b2;go_wp2_with fail;go_roundw;case rel=>exact ⟨i+1,by omega,by go_num,by rw [HM.out],OK2,O3,B3⟩
     case measure=>simp [intOf];omega
   ·have hE2:=Ξ (hE.out.2 i hil OK.out h0);have hne:((quantG l[i] k).2.2 == 0)=false:=by simpa using h0
    generalize (quantG l[i] k).1=qv at *;generalize (quantG l[i] k).2.1=qm at *;generalize (quantG l[i] k).2.2=qe at *;go_wp2_with fail;refine (HQ.out _).mono ?_;rintro _ w2 ⟨rfl,rfl⟩;go_wp2_with fail;obtain ⟨rfl,rfl,rfl,rfl⟩:=hE2.out;refine bodyPost_ret (v:=.tuple #[.slice none 0 0,.int .i64 0,.int .i64 i,.int .i64 er]) (by simp [results,Tryz.results17,go_sem]) rfl ⟨_,rfl,own_mono (own_none _) BI.out.size,BI.out⟩
  ·obtain rfl:i=n:=by omega
   have ht:l.take i=l:=List.take_of_length_le (by rw [HL.out];exact Θ _);rw [ht] at OK OI ⊢;obtain ⟨rfl,rfl,rfl,rfl⟩:=hE.out.1 OK.out;go_wp2_with fail;have hv:(valL k l).length=i:=by simp [valL,HL.out]
   refine bodyPost_ret (v:=.tuple #[u8,.int .i64 (markL k l),.int .i64 0,.int .i64 0]) (by simp [results,Tryz.results17,go_sem]) rfl ⟨_,rfl,by rw [hv];exact OI.out,BI.out⟩
theorem rall_two{s:Sl}{w:World}{k:Int}(hr:SlRd .u64 w s)(hl:s.xs.length=2)(k1 : -64≤k)(k2:k≤64)(hb:∀ x∈s.xs,0≤x∧x<18446744073709551616) :
  AllC 17 s.v k (allG k (s.xs.map Int.toNat)).1 (allG k (s.xs.map Int.toNat)).2.1 (allG k (s.xs.map Int.toNat)).2.2.1 (allG k (s.xs.map Int.toNat)).2.2.2 w:=by
 have hi:Ints .u64 w s.v (nats (s.xs.map Int.toNat)):=by rw [nats_toNat fun z hz=>(hb z hz).1];exact hr.ints
 obtain ⟨b,off,cap,hv,hcell⟩:=hi.shape (by rw [nats_toNat fun z hz=>(hb z hz).1];omega);have hnl:(nats (s.xs.map Int.toNat)).length=s.xs.length:=by rw [nats_toNat fun z hz=>(hb z hz).1]
 rw [hnl] at hv hcell;rw [hv];have hbw:=World.block_lt_of_cell? w _ (hcell 0 (by omega));refine rall_go b off cap s.xs.length k (s.xs.map Int.toNat) _ _ _ _ w ?_ (by simp) hcell hbw (by omega) (by omega) (by omega) (by omega) (Ξ (allG_ends k _ (by omega) (by omega) (by simp;omega) (by simp;omega)));intro x hx;obtain ⟨z,hz,rfl⟩:=List.mem_map.1 hx;have:=hb z hz;omega
end Go.Proofs.YtcgmgdjeamidlaaGreat
