/- Printed small by mini.py. -/
import Derived.Test.YtcgmgdjeamidlaaGreatMg34
namespace Go.Proofs.YtcgmgdjeamidlaaGreat
set_option maxRecDepth 100000
set_option maxHeartbeats 16000000
open Go.RowKit Go.ChangeShapes Go.WideShapes Go.ChangeAt
set_option linter.unusedVariables false
set_option linter.unusedSimpArgs false
set_option maxHeartbeats 2000000
theorem ret_int2{k l:IntKind}{a b c d:Int}(h:a=b)(h2:c=d):Ending.returned (.tuple #[.int k a,.int l c])=.returned (.tuple #[.int k b,.int l d]):=by rw [h,h2]
theorem field64(x:Nat)(hx:x<18446744073709551616):bits .and .u64 ((x:Int) / 4503599627370496) 2047=((Fl.fld x:Nat):Int):=by
 have e:(x:Int) / 4503599627370496=((x / 4503599627370496:Nat):Int):=by omega
 rw [e,show (2047:Int)=((2047:Nat):Int) from rfl,u64_and_nat _ _ (by omega) (by omega),show (2047:Nat)=2 ^ 11-1 from rfl,Nat.and_two_pow_sub_one_eq_mod];rfl
theorem frac64(x:Nat)(hx:x<18446744073709551616):bits .and .u64 (x:Int) 4503599627370495=((Fl.frc x:Nat):Int):=by rw [show (4503599627370495:Int)=((4503599627370495:Nat):Int) from rfl,u64_and_nat _ _ hx (by omega),show (4503599627370495:Nat)=2 ^ 52-1 from rfl,Nat.and_two_pow_sub_one_eq_mod];rfl
theorem or52(m:Nat)(hm:m<4503599627370496):bits .or .u64 (m:Int) 4503599627370496=((4503599627370496+m:Nat):Int):=by rw [show (4503599627370496:Int)=((4503599627370496:Nat):Int) from rfl,u64_or_nat _ _ (by omega) (by omega)];have:=Nat.two_pow_add_eq_or_of_lt (i:=52) (b:=m) hm 1;rw [Nat.or_comm];congr 1;simpa using this.symm
def kindF(x:Nat):Int:=if Fl.fld x=2047 then (if Fl.frc x=0 then 4 else 5) else if Fl.fld x=0 then (if Fl.frc x=0 then 1 else 2) else 3
theorem rkind_any(x:Nat)(w:World)(hx:x<18446744073709551616):Calls Tryz.prog 83 #[.int .u64 x] w fun e w'=>e=.returned (.int .i64 (kindF x))∧w'=w:=by
 have f1:=field64 x hx;have f2:=frac64 x hx;have K:kindF x=if Fl.fld x=2047 then (if Fl.frc x=0 then 4 else 5) else if Fl.fld x=0 then (if Fl.frc x=0 then 1 else 2) else 3:=rfl;generalize kindF x=kd at K ⊢;have hf:Fl.fld x<2048:=by unfold Fl.fld;omega
 have hm:Fl.frc x<4503599627370496:=by unfold Fl.frc;omega
 generalize Fl.fld x=f at f1 hf K;generalize Fl.frc x=m at f2 hm K;have HK:=Lib.hid K;clear K;by_cases a:f=2047
 ·subst a;by_cases b:m=0
  ·subst b;go_enter Tryz.func83,Tryz.ntmps83
   go_wp2
   go_ret;exact ⟨ret_int (by rw [HK.out];rfl),rfl⟩
  ·have b':((m:Int) == 0)=false:=by simpa using b
   have b2:¬ (m:Int)=0:=(by omega);go_enter Tryz.func83,Tryz.ntmps83
   go_wp2
   go_ret;exact ⟨ret_int (by rw [HK.out];simp [b]),rfl⟩
 ·have a':((f:Int) == 2047)=false:=by simpa using (by omega:¬ (f:Int)=2047)
  by_cases b:f=0
  ·subst b;by_cases c:m=0
   ·subst c;go_enter Tryz.func83,Tryz.ntmps83
    go_wp2
    go_ret;exact ⟨ret_int (by rw [HK.out];rfl),rfl⟩
   ·have c':((m:Int) == 0)=false:=by simpa using c
    have c2:¬ (m:Int)=0:=(by omega);go_enter Tryz.func83,Tryz.ntmps83
    go_wp2
    go_ret;exact ⟨ret_int (by rw [HK.out];simp [c]),rfl⟩
  ·have b1:(0:Int)<(f:Int):=(by omega);go_enter Tryz.func83,Tryz.ntmps83
   go_wp2
   go_ret;exact ⟨ret_int (by rw [HK.out];simp [a,b]),rfl⟩
theorem parts_any(x:Nat)(w:World)(hx:x<18446744073709551616):Calls Tryz.prog 84 #[.int .u64 x] w fun e w'=>e=.returned (.tuple #[.int .u64 (Fl.mM x:Nat),.int .i64 ((Fl.mE x:Nat)-1075:Int)])∧w'=w:=by
 have f1:=field64 x hx;have f2:=frac64 x hx;have M:Fl.mM x=if Fl.fld x=0 then Fl.frc x else 4503599627370496+Fl.frc x:=rfl;have E:Fl.mE x=if Fl.fld x=0 then 1 else Fl.fld x:=rfl;generalize Fl.mM x=mm at M ⊢;generalize Fl.mE x=me at E ⊢;have hf:Fl.fld x<2048:=by unfold Fl.fld;omega
 have hm:Fl.frc x<4503599627370496:=by unfold Fl.frc;omega
 have f3:=or52 _ hm;generalize Fl.fld x=f at f1 hf M E;generalize Fl.frc x=m at f2 f3 hm M;by_cases b:f=0
 ·rw [if_pos b] at M E;subst b M E;go_enter Tryz.func84,Tryz.ntmps84
  go_wp2
  go_ret2;exact ⟨ret_int2 rfl (by omega),rfl⟩
 ·rw [if_neg b] at M E;have b':((f:Int) == 0)=false:=by simpa using b
  have b2:¬ (f:Int)=0:=by omega
  have HM:=Lib.hid M;have HE:=Lib.hid E;clear M E;go_enter Tryz.func84,Tryz.ntmps84
  go_wp2
  go_ret2;exact ⟨ret_int2 (by rw [HM.out];omega) (by rw [HE.out]),rfl⟩
theorem kind_rg(x:Nat):kindF x=if 9218868437227405312<Fl.rg x then 5 else if Fl.rg x=9218868437227405312 then 4 else if Fl.rg x=0 then 1 else if Fl.rg x<4503599627370496 then 2 else 3:=by
 have a:Fl.rg x=Fl.fld x * 4503599627370496+Fl.frc x:=by unfold Fl.rg Fl.fld Fl.frc;omega
 have b:Fl.frc x<4503599627370496:=by unfold Fl.frc;omega
 have c:Fl.fld x<2048:=by unfold Fl.fld;omega
 unfold kindF
 (repeat' split)<;>omega
theorem near_fin(m d D q r N:Nat)(ex:Bool)(w:World)(h0:0<m)(hm:m<9007199254740992)(hd:d≤60)(e1:IntKind.u64.wrap ((2:Int) ^ d)=(D:Int))(D1:1≤D)(D2:D≤1152921504606846976)(e2:(m:Int) / (D:Int)=(q:Int))(e3:(m:Int) % (D:Int)=(r:Int))(hq:q<9007199254740992)(hr:r<D)
  (h:((D:Int)<2 * (r:Int)∧N=q+1∧ex=false)∨((2 * (r:Int)=(D:Int)∧(q:Int) % 2=1)∧N=q+1∧ex=false)∨((2 * (r:Int)=(D:Int)∧(q:Int) % 2=0∧((r:Int) == 0)=false)∧N=q∧ex=false)∨((2 * (r:Int)<(D:Int)∧((r:Int) == 0)=false)∧N=q∧ex=false)∨((2 * (r:Int)<(D:Int)∧r=0)∧N=q∧ex=true)) :
  Calls Tryz.prog 85 #[.int .u64 m,.int .i64 (-(d:Int))] w fun e w'=>e=.returned (.tuple #[.int .u64 (N:Nat),.bool ex])∧w'=w:=by
 have m0:((m:Int) == 0)=false:=by simpa using (by omega:¬ m=0)
 have m1:¬ (m:Int)=0:=by omega
 rcases h with ⟨c,rfl,rfl⟩|⟨⟨c,c'⟩,rfl,rfl⟩|⟨⟨c,c',z⟩,rfl,rfl⟩|⟨⟨c,z⟩,rfl,rfl⟩|⟨⟨c,rfl⟩,rfl,rfl⟩;all_goals
  go_enter Tryz.func85,Tryz.ntmps85;go_wp2_with fail;refine wp_loop_once ?_;go_wp2_with fail;go_ret2;exact ⟨by first|rfl|(congr 3<;>first|rfl|omega),rfl⟩
theorem near_zero(p:Int)(w:World):Calls Tryz.prog 85 #[.int .u64 0,.int .i64 p] w fun e w'=>e=.returned (.tuple #[.int .u64 0,.bool true])∧w'=w:=by
 go_enter Tryz.func85,Tryz.ntmps85
 go_wp2
 go_ret2;exact ⟨rfl,rfl⟩
theorem near_far(m:Nat)(p:Int)(w:World)(h0:0<m)(hp:p < -60):Calls Tryz.prog 85 #[.int .u64 m,.int .i64 p] w fun e w'=>e=.returned (.tuple #[.int .u64 0,.bool false])∧w'=w:=by
 have m0:((m:Int) == 0)=false:=by simpa using (by omega:¬ m=0)
 have m1:¬ (m:Int)=0:=by omega
 go_enter Tryz.func85,Tryz.ntmps85;go_wp2_with fail;refine wp_loop_once ?_;go_wp2_with fail;go_ret2;exact ⟨rfl,rfl⟩
def satN:Nat→Nat→Nat
 | m,0=>m
 | m,j+1=>if 1099511627776≤m then 1099511627776 else satN (m * 2) j
theorem satN_spec:∀ (p m:Nat),m<9007199254740992→satN m p<9007199254740992∧(satN m p=m * 2 ^ p∨(satN m p=1099511627776∧1099511627776≤m * 2 ^ p))
 | 0,m,h=>by simp [satN];exact h
 | j+1,m,h=>by
  unfold satN;by_cases hk:1099511627776≤m
  ·rw [if_pos hk];exact ⟨by omega,.inr ⟨rfl,Nat.le_trans hk (Nat.le_mul_of_pos_right _ (Nat.pow_pos (by omega)))⟩⟩
  ·rw [if_neg hk];have ih:=satN_spec j (m * 2) (by omega);rw [Nat.mul_assoc,←Nat.pow_succ'] at ih;exact ih
theorem near_pos(m p:Nat)(w:World)(h0:0<m)(hm:m<9007199254740992)(hp:p≤3000):Calls Tryz.prog 85 #[.int .u64 m,.int .i64 p] w fun e w'=>e=.returned (.tuple #[.int .u64 (satN m p:Nat),.bool true])∧w'=w:=by
 have m0:((m:Int) == 0)=false:=by simpa using (by omega:¬ m=0)
 have m1:¬ (m:Int)=0:=by omega
 go_enter Tryz.func85,Tryz.ntmps85;go_wp2_with fail
 go_loop [0,1] (fun a b=>∃ k j:Nat,j≤p∧a=.int .u64 k∧b=.int .i64 j∧0<k∧k<9007199254740992∧Hid (satN k j=satN m p)) (fun _ b=>(intOf b).toNat)
 case atStart=>exact ⟨m,p,Nat.le_refl _,rfl,rfl,h0,hm,Lib.hid rfl⟩
 case round=>
  obtain ⟨k,j,hj,rfl,rfl,hk0,hk1,HK⟩:=hrel;by_cases hj0:j=0
  ·subst hj0;have e1:IntKind.u64.wrap ((2:Int) ^ 0)=1:=(by decide);go_wp2_with fail;go_ret2;exact ⟨by rw [←HK.out];rfl,rfl⟩
  ·by_cases hk:(1099511627776:Int)≤(k:Int)
   ·have H2:=Lib.hid (show 1099511627776≤k by omega);go_wp2_with fail;go_ret2;refine ⟨?_,rfl⟩;rw [←HK.out];obtain ⟨j',rfl⟩:∃ j',j=j'+1:=⟨j-1,by omega⟩;unfold satN;rw [if_pos H2.out];rfl
   ·have hk':=Lib.hid (show (k:Int)<1099511627776 by omega);have hd:decide ((1099511627776:Int)≤(k:Int))=false:=decide_eq_false hk;have hj1:(0:Int)<(j:Int):=(by omega);have kA:(k:Int) * 2≤18446744073709551615:=(by omega);have kB:(0:Int)≤(k:Int) * 2:=(by omega);have HK0:=Lib.hid hk0;clear hk1 hk hm h0 m0 m1 hk0;generalize hkk:(k:Int)=kk at *;have HKK:=Lib.hid hkk;clear hkk;go_wp2_with fail
    go_round
    case rel=>
     refine ⟨k * 2,j-1,by omega,by rw [Int.natCast_mul,HKK.out];rfl,by go_num,by have:=HK0.out;omega,by have:=hk'.out;have:=HKK.out;omega,Lib.hid ?_⟩;rw [←HK.out];obtain ⟨j',rfl⟩:∃ j',j=j'+1:=⟨j-1,by omega⟩;conv=>rhs;unfold satN
     rw [if_neg (by have:=hk'.out;have:=HKK.out;omega)];rfl
    case measure=>simp [intOf];omega
def NearC(m:Nat)(p:Int)(N:Nat)(ex:Bool):Prop:=∀ w,Calls Tryz.prog 85 #[.int .u64 m,.int .i64 p] w fun e w'=>e=.returned (.tuple #[.int .u64 N,.bool ex])∧w'=w
theorem wrap_pow(d:Nat)(hd:d≤60):IntKind.u64.wrap ((2:Int) ^ d)=((2 ^ d:Nat):Int)∧1≤2 ^ d∧2 ^ d≤1152921504606846976:=by
 have h1:2 ^ d≤2 ^ 60:=Nat.pow_le_pow_right (by omega) hd;have h2:1≤2 ^ d:=Nat.one_le_two_pow;have e:((2:Int) ^ d)=((2 ^ d:Nat):Int):=by rw [Int.natCast_pow];rfl
 rw [e];generalize 2 ^ d=D at h1 h2;refine ⟨?_,h2,h1⟩;simp only [IntKind.wrap,IntKind.bits,IntKind.signed];simp;omega
theorem near_dn(m d:Nat)(h0:0<m)(hm:m<9007199254740992)(hd:d≤60):NearC m (-(d:Int)) (Fl.cut m d) (decide (m % 2 ^ d=0)):=by
 intro w;obtain ⟨e1,D1,D2⟩:=wrap_pow d hd;have hr:=Nat.mod_lt m D1;have hq:m / 2 ^ d<9007199254740992:=Nat.lt_of_le_of_lt (Nat.div_le_self _ _) hm;have e2:(m:Int) / ((2 ^ d:Nat):Int)=((m / 2 ^ d:Nat):Int):=by rw [Int.natCast_ediv]
 have e3:(m:Int) % ((2 ^ d:Nat):Int)=((m % 2 ^ d:Nat):Int):=by rw [Int.natCast_emod]
 unfold Fl.cut;generalize m / 2 ^ d=q at *;generalize m % 2 ^ d=r at *;generalize 2 ^ d=D at *;by_cases g0:r=0
 ·rw [decide_eq_false (show ¬ D<2 * r by omega),show (D == 2 * r)=false by simpa using (by omega:¬ D=2 * r),decide_eq_true g0];exact near_fin m d D q r _ _ w h0 hm hd e1 D1 D2 e2 e3 hq hr (.inr (.inr (.inr (.inr ⟨⟨by omega,g0⟩,rfl,rfl⟩))))
 have hz:((r:Int) == 0)=false:=by simpa using g0
 rw [decide_eq_false g0];rcases Nat.lt_trichotomy D (2 * r) with h|h|h
 ·rw [decide_eq_true h];exact near_fin m d D q r _ _ w h0 hm hd e1 D1 D2 e2 e3 hq hr (.inl ⟨by omega,rfl,rfl⟩)
 ·rw [decide_eq_false (show ¬ D<2 * r by omega),show (D == 2 * r)=true by simpa using h];by_cases g:q % 2=1
  ·rw [show (q % 2 == 1)=true by simpa using g];exact near_fin m d D q r _ _ w h0 hm hd e1 D1 D2 e2 e3 hq hr (.inr (.inl ⟨⟨by omega,by omega⟩,rfl,rfl⟩))
  ·rw [show (q % 2 == 1)=false by simpa using g];exact near_fin m d D q r _ _ w h0 hm hd e1 D1 D2 e2 e3 hq hr (.inr (.inr (.inl ⟨⟨by omega,by omega,hz⟩,rfl,rfl⟩)))
 ·rw [decide_eq_false (show ¬ D<2 * r by omega),show (D == 2 * r)=false by simpa using (by omega:¬ D=2 * r)];exact near_fin m d D q r _ _ w h0 hm hd e1 D1 D2 e2 e3 hq hr (.inr (.inr (.inr (.inl ⟨⟨by omega,hz⟩,rfl,rfl⟩))))
def NearOk(m:Nat)(p:Int)(N:Nat)(ex:Bool):Prop:=ex=(nearG m p).2∧N<9007199254740993∧(N=(nearG m p).1∨(N=1099511627776∧1099511627776≤(nearG m p).1))
theorem near_any(m:Nat)(p:Int)(hm:m<9007199254740992)(hp:p≤3000):∃ N ex,NearC m p N ex∧NearOk m p N ex:=by
 unfold NearOk nearG;by_cases h0:m=0
 ·subst h0;exact ⟨0,true,fun w=>near_zero p w,rfl,by omega,.inl rfl⟩
 ·rw [if_neg h0];unfold Fl.nearF;by_cases h1:0≤p
  ·rw [if_pos h1];obtain ⟨q,rfl⟩:=Int.eq_ofNat_of_zero_le h1;obtain ⟨a,b⟩:=satN_spec q m hm;refine ⟨satN m q,true,fun w=>near_pos m q w (by omega) hm (by omega),rfl,by omega,?_⟩;rw [Int.toNat_natCast];exact b
  ·rw [if_neg h1];by_cases h2:p < -60
   ·have hc:2 * m<2 ^ (-p).toNat:=by have:2 ^ 61≤2 ^ (-p).toNat:=Nat.pow_le_pow_right (by omega) (by omega);omega
    refine ⟨0,false,fun w=>near_far m p w (by omega) h2,?_,by omega,.inl (Fl.cut_small _ _ hc).symm⟩;rw [decide_eq_false];rw [Nat.mod_eq_of_lt (by omega)];exact h0
   ·obtain ⟨d,rfl⟩:∃ d:Nat,p = -(d:Int):=⟨(-p).toNat,by omega⟩;refine ⟨_,_,near_dn m d (by omega) hm (by omega),?_,?_,.inl ?_⟩
    ·rw [show (- -(d:Int)).toNat=d by omega]
    ·have:=Fl.cut_le m d;have:m / 2 ^ d≤m:=Nat.div_le_self _ _;omega
    ·rw [show (- -(d:Int)).toNat=d by omega]
end Go.Proofs.YtcgmgdjeamidlaaGreat
