/- Texts of one proof, joined. -/
import Ieee.Arith
namespace Go.Proofs.YtcgmgdjeamidlaaGreat.Fl
set_option maxRecDepth 100000
set_option maxHeartbeats 16000000
open Ieee
def fld(x:Nat):Nat:=x / 4503599627370496 % 2048
def frc(x:Nat):Nat:=x % 4503599627370496
def sg(x:Nat):Bool:=decide (9223372036854775808≤x)
def mk(s:Bool)(e m:Nat):Nat:=(if s then 9223372036854775808 else 0)+e * 4503599627370496+m
theorem sw:Ieee.double.signWeight=9223372036854775808:=by decide
theorem bin:Ieee.double.binade=4503599627370496:=by decide
theorem infr:Ieee.double.infRung=9218868437227405312:=by decide
theorem lp:Ieee.double.leastPlace = -1074:=by decide
theorem frb:Ieee.double.fractionBits=52:=rfl
theorem read_eq(x:Nat)(hx:x<18446744073709551616) :
  Ieee.double.read x=if fld x=2047 then (if frc x=0 then .infinity (sg x) else .nan (sg x) (frc x)) else if fld x=0 then .number (sg x) (frc x) (-1074) else .number (sg x) (4503599627370496+frc x) ((fld x:Int)-1075):=by
 unfold Ieee.Format.read;rw [sw,bin,infr,lp];have hs:(x / 9223372036854775808 % 2 == 1)=sg x:=by
  unfold sg;by_cases h:9223372036854775808≤x
  ·rw [decide_eq_true h,beq_iff_eq];omega
  ·rw [decide_eq_false h,beq_eq_false_iff_ne];omega
 rw [hs];unfold fld frc;simp only [];by_cases h0:x % 9223372036854775808<4503599627370496
 ·rw [if_pos h0,if_neg (by omega),if_pos (by omega)];congr 1;omega
 ·rw [if_neg h0];by_cases h1:x % 9223372036854775808<9218868437227405312
  ·rw [if_pos h1,if_neg (by omega),if_neg (by omega)];congr 1<;>omega
  ·rw [if_neg h1];by_cases h2:x % 9223372036854775808=9218868437227405312
   ·rw [if_pos h2,if_pos (show x / 4503599627370496 % 2048=2047 by omega),if_pos (show x % 4503599627370496=0 by omega)]
   ·rw [if_neg h2,if_pos (show x / 4503599627370496 % 2048=2047 by omega),if_neg (show ¬ x % 4503599627370496=0 by omega),show x % 9223372036854775808-9218868437227405312=x % 4503599627370496 by omega]
theorem mk_fields(s:Bool)(e m:Nat)(he:e<2048)(hm:m<4503599627370496):fld (mk s e m)=e∧frc (mk s e m)=m∧sg (mk s e m)=s∧mk s e m<18446744073709551616:=by
 cases s<;>simp only [mk,fld,frc,sg,Bool.false_eq_true,if_false,if_true]<;>refine ⟨by omega,by omega,?_,by omega⟩
 ·rw [decide_eq_false_iff_not];omega
 ·rw [decide_eq_true_eq];omega
theorem mk_of(x:Nat)(hx:x<18446744073709551616):x=mk (sg x) (fld x) (frc x):=by
 unfold mk fld frc sg;by_cases h:9223372036854775808≤x
 ·simp only [h,decide_true,if_true];omega
 ·simp only [h,decide_false,Bool.false_eq_true,if_false];omega
theorem word_eq(s:Bool)(r:Nat):Ieee.double.word s r=(if s then 9223372036854775808 else 0)+r:=by unfold Ieee.Format.word;rw [sw];cases s<;>simp
theorem word_mk(s:Bool)(e m r:Nat)(h:r=e * 4503599627370496+m):Ieee.double.word s r=mk s e m:=by rw [word_eq,mk,h,Nat.add_assoc]
def cut(m d:Nat):Nat:=m / 2 ^ d+(decide (2 ^ d<2 * (m % 2 ^ d)) || (2 ^ d == 2 * (m % 2 ^ d) && m / 2 ^ d % 2 == 1)).toNat
theorem even_cut(s:Bool)(m d:Nat):Ieee.Toward.even.cut s m d=cut m d:=by
 unfold Ieee.Toward.cut cut;simp only [Nat.one_shiftLeft];by_cases h:d≤m.log2+2
 ·rw [Nat.min_eq_left h]
 ·rw [Nat.min_eq_right (by omega)];have hm:m<2 ^ (m.log2+1):=Nat.lt_log2_self;have h1:2 ^ (m.log2+2)=2 * 2 ^ (m.log2+1):=by rw [Nat.pow_succ];omega
  have h2:2 ^ (m.log2+2)≤2 ^ d:=Nat.pow_le_pow_right (by omega) (by omega);rw [Nat.div_eq_of_lt (a:=m) (b:=2 ^ (m.log2+2)) (by omega),Nat.div_eq_of_lt (a:=m) (b:=2 ^ d) (by omega),Nat.mod_eq_of_lt (a:=m) (b:=2 ^ (m.log2+2)) (by omega),Nat.mod_eq_of_lt (a:=m) (b:=2 ^ d) (by omega)];have e1:decide (2 ^ (m.log2+2)<2 * m)=false:=by rw [decide_eq_false_iff_not];omega
  have e2:decide (2 ^ d<2 * m)=false:=by rw [decide_eq_false_iff_not];omega
  have e3:(2 ^ (m.log2+2) == 2 * m)=false:=by rw [beq_eq_false_iff_ne];omega
  have e4:(2 ^ d == 2 * m)=false:=by rw [beq_eq_false_iff_ne];omega
  simp [e1,e2,e3,e4]
theorem cut_zero(m:Nat):cut m 0=m:=by simp [cut,Nat.mod_one]
theorem cut_le(m d:Nat):cut m d≤m / 2 ^ d+1:=by unfold cut;have:=Bool.toNat_le (decide (2 ^ d<2 * (m % 2 ^ d)) || (2 ^ d == 2 * (m % 2 ^ d) && m / 2 ^ d % 2 == 1));omega
theorem cut_exact(m d:Nat)(h:m % 2 ^ d=0):cut m d=m / 2 ^ d:=by
 unfold cut;have h0:0<2 ^ d:=Nat.pow_pos (by omega);rw [h];have e2:(2 ^ d == 2 * 0)=false:=by rw [beq_eq_false_iff_ne];omega
 simp [e2]
theorem nearest_whole(s:Bool)(n:Nat)(h0:0<n)(h1:n.log2≤52):Ieee.double.nearest s n 0=mk s (n.log2+1023) (n * 2 ^ (52-n.log2)-4503599627370496)∧4503599627370496≤n * 2 ^ (52-n.log2)∧n * 2 ^ (52-n.log2)<9007199254740992:=by
 have hl:2 ^ n.log2≤n:=Nat.log2_self_le (by omega);have hu:n<2 ^ (n.log2+1):=Nat.lt_log2_self;have hp:2 ^ n.log2 * 2 ^ (52-n.log2)=4503599627370496:=by rw [←Nat.pow_add,show n.log2+(52-n.log2)=52 by omega]
 have hp2:2 ^ (n.log2+1) * 2 ^ (52-n.log2)=9007199254740992:=by rw [←Nat.pow_add,show n.log2+1+(52-n.log2)=53 by omega]
 have b1:4503599627370496≤n * 2 ^ (52-n.log2):=by rw [←hp];exact Nat.mul_le_mul_right _ hl
 have b2:n * 2 ^ (52-n.log2)<9007199254740992:=by rw [←hp2];exact Nat.mul_lt_mul_of_pos_right hu (Nat.pow_pos (by omega))
 refine ⟨?_,b1,b2⟩;unfold Ieee.Format.nearest;rw [if_neg (by omega),frb,lp,bin,infr];have hlast:max (0+(n.log2:Int)-(52:Nat)) (-1074)=(n.log2:Int)-52:=by omega
 simp only [hlast];rw [show (0-((n.log2:Int)-52)).toNat=52-n.log2 by omega,show ((n.log2:Int)-52-0).toNat=0 by omega,show ((n.log2:Int)-52 - -1074).toNat=n.log2+1022 by omega,even_cut,cut_zero,Nat.shiftLeft_eq];rw [Nat.min_eq_left (by omega)];exact word_mk _ _ _ _ (by omega)
def rg(x:Nat):Nat:=x % 9223372036854775808
def rk(x:Nat):Int:=if sg x then -(rg x:Int) else (rg x:Int)
def mE(x:Nat):Nat:=if fld x=0 then 1 else fld x
def mM(x:Nat):Nat:=if fld x=0 then frc x else 4503599627370496+frc x
theorem read_fin(x:Nat)(hx:x<18446744073709551616)(h:fld x<2047):Ieee.double.read x=.number (sg x) (mM x) ((mE x:Int)-1075):=by
 rw [read_eq x hx,if_neg (by omega)];unfold mM mE;by_cases h0:fld x=0
 ·rw [if_pos h0,if_pos h0,if_pos h0];rfl
 ·rw [if_neg h0,if_neg h0,if_neg h0]
theorem rung_eq(x:Nat):rg x+4503599627370496=mM x+mE x * 4503599627370496∧mM x<9007199254740992∧1≤mE x∧(1<mE x→4503599627370496≤mM x)∧mE x≤2047∧(fld x<2047→mE x<2047):=by unfold rg mM mE fld frc;split<;>refine ⟨by omega,by omega,by omega,by omega,by omega,by omega⟩
theorem cmp_iff(a b c d:Int)(h1:a<b↔c<d)(h2:a=b↔c=d):compare a b=compare c d:=by
 simp only [compare,compareOfLessAndEq];by_cases h:a<b
 ·rw [if_pos h,if_pos (h1.1 h)]
 ·rw [if_neg h,if_neg (fun x=>h (h1.2 x))];by_cases g:a=b
  ·rw [if_pos g,if_pos (h2.1 g)]
  ·rw [if_neg g,if_neg (fun x=>g (h2.2 x))]
theorem order_fin(x y:Nat)(hx:x<18446744073709551616)(hy:y<18446744073709551616)(h:fld x<2047)(h':fld y<2047):Ieee.double.order x y=some (compare (rk x) (rk y)):=by
 unfold Ieee.Format.order;rw [read_fin x hx h,read_fin y hy h'];unfold Ieee.Datum.order
 dsimp only
 obtain ⟨r1,r2,r3,r4,_,_⟩:=rung_eq x;obtain ⟨q1,q2,q3,q4,_,_⟩:=rung_eq y;have key:∀ A B:Nat,(A<B↔rg x<rg y)→(A=B↔rg x=rg y)→(A=0↔rg x=0)→(B=0↔rg y=0)→compare (if sg x=true then -(A:Int) else A) (if sg y=true then -(B:Int) else B)=compare (rk x) (rk y):=by intro A B k1 k2 k3 k4;unfold rk;refine cmp_iff _ _ _ _ ?_ ?_<;>(split<;>split<;>omega)
 unfold signed;have e2:∀ (m k:Nat),m <<< k=m * 2 ^ k:=Nat.shiftLeft_eq;simp only [e2];congr 1;have big:∀ n d:Nat,4503599627370496≤n→1≤d→9007199254740992≤n * 2 ^ d:=by
  intro n d h1 h2;obtain ⟨k,rfl⟩:∃ k,d=k+1:=⟨d-1,by omega⟩;have:1≤2 ^ k:=Nat.one_le_two_pow
  calc 9007199254740992=4503599627370496 * 2:=rfl
   _≤n * 2 ^ (k+1):=Nat.mul_le_mul h1 (by rw [Nat.pow_succ];omega)
 rcases Nat.lt_trichotomy (mE x) (mE y) with hlt|heq|hgt
 ·rw [show ((mE x:Int)-1075-min ((mE x:Int)-1075) ((mE y:Int)-1075)).toNat=0 by omega,show ((mE y:Int)-1075-min ((mE x:Int)-1075) ((mE y:Int)-1075)).toNat=mE y-mE x by omega];have hB:=big (mM y) (mE y-mE x) (q4 (by omega)) (by omega);generalize mM y * 2 ^ (mE y-mE x)=B at hB ⊢;have q5:=q4 (by omega);refine key _ _ ?_ ?_ ?_ ?_<;>(try simp only [Nat.pow_zero,Nat.mul_one])<;>omega
 ·rw [show ((mE x:Int)-1075-min ((mE x:Int)-1075) ((mE y:Int)-1075)).toNat=0 by omega,show ((mE y:Int)-1075-min ((mE x:Int)-1075) ((mE y:Int)-1075)).toNat=0 by omega];refine key _ _ ?_ ?_ ?_ ?_<;>(try simp only [Nat.pow_zero,Nat.mul_one])
  ·omega
  ·omega
  ·by_cases h1:1<mE x
   ·have:=r4 h1;omega
   ·omega
  ·by_cases h1:1<mE y
   ·have:=q4 h1;omega
   ·omega
 ·rw [show ((mE x:Int)-1075-min ((mE x:Int)-1075) ((mE y:Int)-1075)).toNat=mE x-mE y by omega,show ((mE y:Int)-1075-min ((mE x:Int)-1075) ((mE y:Int)-1075)).toNat=0 by omega];have hB:=big (mM x) (mE x-mE y) (r4 (by omega)) (by omega);generalize mM x * 2 ^ (mE x-mE y)=B at hB ⊢;have q5:=r4 (by omega);refine key _ _ ?_ ?_ ?_ ?_<;>(try simp only [Nat.pow_zero,Nat.mul_one])
  ·omega
  ·omega
  ·omega
  ·by_cases h1:1<mE y
   ·have:=q4 h1;omega
   ·omega
theorem read_inf(x:Nat)(hx:x<18446744073709551616)(h:rg x=9218868437227405312):Ieee.double.read x=.infinity (sg x):=by
 have h1:fld x=2047:=by unfold rg fld at *;omega
 have h2:frc x=0:=by unfold rg frc at *;omega
 rw [read_eq x hx,if_pos h1,if_pos h2]
theorem fld_rg(x:Nat):fld x<2047↔rg x<9218868437227405312:=by unfold rg fld;omega
theorem order_any(x y:Nat)(hx:x<18446744073709551616)(hy:y<18446744073709551616)(h:rg x≤9218868437227405312)(h':rg y≤9218868437227405312):Ieee.double.order x y=some (compare (rk x) (rk y)):=by
 by_cases a:rg x=9218868437227405312<;>by_cases b:rg y=9218868437227405312
 ·unfold Ieee.Format.order;rw [read_inf x hx a,read_inf y hy b];unfold Ieee.Datum.order rk;rw [a,b];cases sg x<;>cases sg y<;>rfl
 ·unfold Ieee.Format.order;rw [read_inf x hx a,read_fin y hy ((fld_rg y).2 (by omega))];unfold Ieee.Datum.order rk;rw [a]
  dsimp only
  congr 1;have:rg y<9218868437227405312:=by omega
  simp only [compare,compareOfLessAndEq];cases sg x<;>cases sg y<;>simp<;>(repeat' split)<;>first|rfl|omega
 ·unfold Ieee.Format.order;rw [read_inf y hy b,read_fin x hx ((fld_rg x).2 (by omega))];unfold Ieee.Datum.order rk;rw [b]
  dsimp only
  congr 1;have:rg x<9218868437227405312:=by omega
  simp only [compare,compareOfLessAndEq];cases sg x<;>cases sg y<;>simp<;>(repeat' split)<;>first|rfl|omega
 ·exact order_fin x y hx hy ((fld_rg x).2 (by omega)) ((fld_rg y).2 (by omega))
theorem order_nan(x y:Nat)(hx:x<18446744073709551616)(h:9218868437227405312<rg x):Ieee.double.order x y=none:=by
 have h1:fld x=2047:=by unfold rg fld at *;omega
 have h2:¬ frc x=0:=by unfold rg frc at *;omega
 unfold Ieee.Format.order;rw [read_eq x hx,if_pos h1,if_neg h2];rfl
theorem log2_eq{n k:Nat}(h1:2 ^ k≤n)(h2:n<2 ^ (k+1)):n.log2=k:=by
 have h0:n≠0:=by have:=Nat.one_le_two_pow (n:=k);omega
 exact (Nat.log2_eq_iff h0).2 ⟨h1,h2⟩
theorem nearest_norm(s:Bool)(k d:Nat)(p:Int)(h1:4503599627370496≤k)(h2:k<9007199254740992)(h3:1≤p+d+1075)(h4:p+d+1075≤2046) :
  Ieee.double.nearest s (k * 2 ^ d) p=mk s (p+d+1075).toNat (k-4503599627370496):=by
 have hp:0<2 ^ d:=Nat.pow_pos (by omega);have hl:(k * 2 ^ d).log2=52+d:=by
  refine log2_eq ?_ ?_
  ·rw [Nat.pow_add];exact Nat.mul_le_mul_right _ h1
  ·rw [show 52+d+1=53+d by omega,Nat.pow_add];exact Nat.mul_lt_mul_of_pos_right h2 hp
 have hn:k * 2 ^ d≠0:=by have:=Nat.mul_pos (show 0<k by omega) hp;omega
 unfold Ieee.Format.nearest;rw [if_neg hn,frb,lp,bin,infr,hl];have hlast:max (p+((52+d:Nat):Int)-(52:Nat)) (-1074)=p+d:=by omega
 simp only [hlast];rw [show (p-(p+(d:Int))).toNat=0 by omega,show (p+(d:Int)-p).toNat=d by omega,even_cut,Nat.shiftLeft_zero,cut_exact _ _ (Nat.mul_mod_left _ _),Nat.mul_div_cancel _ hp];rw [Nat.min_eq_left (by omega)];exact word_mk _ _ _ _ (by omega)
theorem nearest_tiny(s:Bool)(n:Nat)(p:Int)(h:p+n.log2≤-900):∃ r,Ieee.double.nearest s n p=(if s then 9223372036854775808 else 0)+r∧r≤900719925474099200:=by
 unfold Ieee.Format.nearest;by_cases h0:n=0
 ·rw [if_pos h0,word_eq];exact ⟨0,rfl,by omega⟩
 ·rw [if_neg h0,frb,lp,bin,infr];simp only [even_cut];refine ⟨_,word_eq s _,?_⟩;have hl:2 ^ n.log2≤n:=Nat.log2_self_le (by omega);have hu:n<2 ^ (n.log2+1):=Nat.lt_log2_self;generalize hL:max (p+(n.log2:Int)-(52:Nat)) (-1074)=last;have hc:=cut_le (n <<< (p-last).toNat) (last-p).toNat;have hk:(n <<< (p-last).toNat) / 2 ^ (last-p).toNat<9007199254740992:=by
   refine Nat.div_lt_of_lt_mul ?_;rw [Nat.shiftLeft_eq,show (9007199254740992:Nat)=2 ^ 53 from rfl,←Nat.pow_add];have e1:n * 2 ^ (p-last).toNat<2 ^ (n.log2+1+(p-last).toNat):=by rw [Nat.pow_add];exact Nat.mul_lt_mul_of_pos_right hu (Nat.pow_pos (by omega))
   exact Nat.lt_of_lt_of_le e1 (Nat.pow_le_pow_right (by omega) (by omega))
  omega
def rgN(n:Nat):Nat:=if n=0 then 0 else (n.log2+1022) * 4503599627370496+n * 2 ^ (52-n.log2)
theorem norm_bounds{n:Nat}(h0:n≠0)(h1:n.log2≤52):4503599627370496≤n * 2 ^ (52-n.log2)∧n * 2 ^ (52-n.log2)<9007199254740992:=(nearest_whole true n (by omega) h1).2
theorem rgN_lt{a b:Nat}(ha:a.log2≤52)(hb:b.log2≤52)(h:a<b):rgN a<rgN b:=by
 unfold rgN;rw [if_neg (show b≠0 by omega)];have kb:=norm_bounds (show b≠0 by omega) hb;by_cases h0:a=0
 ·rw [if_pos h0];omega
 ·rw [if_neg h0];have ka:=norm_bounds h0 ha;have hm:a.log2≤b.log2:=by
   rcases Nat.lt_or_ge b.log2 a.log2 with hlt|hge
   ·have l1:2 ^ a.log2≤a:=Nat.log2_self_le h0;have l2:b<2 ^ (b.log2+1):=Nat.lt_log2_self;have l3:2 ^ (b.log2+1)≤2 ^ a.log2:=Nat.pow_le_pow_right (by omega) (by omega);omega
   ·exact hge
  by_cases he:a.log2=b.log2
  ·rw [he];have:a * 2 ^ (52-b.log2)<b * 2 ^ (52-b.log2):=Nat.mul_lt_mul_of_pos_right h (Nat.pow_pos (by omega));omega
  ·omega
theorem rgN_lt_iff{a b:Nat}(ha:a.log2≤52)(hb:b.log2≤52):rgN a<rgN b↔a<b:=by
 refine ⟨fun h=>?_,rgN_lt ha hb⟩;rcases Nat.lt_trichotomy a b with x|x|x
 ·exact x
 ·subst x;omega
 ·have:=rgN_lt hb ha x;omega
theorem nearest_nat(s:Bool)(n:Nat)(h1:n.log2≤52):Ieee.double.nearest s n 0=(if s then 9223372036854775808 else 0)+rgN n:=by
 unfold rgN;by_cases h0:n=0
 ·rw [if_pos h0];unfold Ieee.Format.nearest;rw [if_pos h0,word_eq]
 ·rw [if_neg h0,(nearest_whole s n (by omega) h1).1];have:=norm_bounds h0 h1;unfold mk;omega
theorem rgN_le{n:Nat}(h1:n.log2≤52):rgN n<9223372036854775808∧rgN n<4850376798678024192:=by
 unfold rgN;by_cases h0:n=0
 ·rw [if_pos h0];omega
 ·rw [if_neg h0];have:=norm_bounds h0 h1;omega
theorem rgN_max:rgN 2147483647=4746794007244308480:=by decide +kernel
theorem rgN_min:rgN 2147483648=4746794007248502784:=by decide +kernel
theorem read_mk(s:Bool)(e m:Nat)(h1:1≤e)(h2:e≤2046)(h3:m<4503599627370496):Ieee.double.read (mk s e m)=.number s (4503599627370496+m) ((e:Int)-1075):=by obtain ⟨a,b,c,d⟩:=mk_fields s e m (by omega) h3;rw [read_eq _ d,a,b,c,if_neg (by omega),if_neg (by omega)]
theorem mul_one(s:Bool)(e m:Nat)(h1:1≤e)(h2:e≤2046)(h3:m<4503599627370496):Ieee.double.mul 4607182418800017408 (mk s e m)=some (mk s e m):=by
 have e1:(4607182418800017408:Nat)=mk false 1023 0:=by decide
 unfold Ieee.Format.mul;rw [e1,read_mk false 1023 0 (by omega) (by omega) (by omega),read_mk s e m h1 h2 h3];unfold Ieee.Datum.product
 dsimp only
 rw [Option.map_some];unfold Ieee.Format.write
 dsimp only
 rw [Bool.false_xor,Nat.mul_comm,show (4503599627370496+0:Nat)=2 ^ 52 from rfl,nearest_norm s _ 52 _ (by omega) (by omega) (by omega) (by omega)];rw [show (((1023:Nat):Int)-1075+((e:Int)-1075)+((52:Nat):Int)+1075).toNat=e by omega,Nat.add_sub_cancel_left]
theorem c_eq(a b:Int):(some (compare a b) == some Ordering.eq)=decide (a=b):=by
 simp only [compare,compareOfLessAndEq];by_cases h:a<b
 ·rw [if_pos h,decide_eq_false (by omega)];rfl
 ·rw [if_neg h];by_cases g:a=b
  ·rw [if_pos g,decide_eq_true g];rfl
  ·rw [if_neg g,decide_eq_false g];rfl
theorem c_lt(a b:Int):(some (compare a b) == some Ordering.lt)=decide (a<b):=by
 simp only [compare,compareOfLessAndEq];by_cases h:a<b
 ·rw [if_pos h,decide_eq_true h];rfl
 ·rw [if_neg h,decide_eq_false h];by_cases g:a=b
  ·rw [if_pos g];rfl
  ·rw [if_neg g];rfl
theorem c_gt(a b:Int):(some (compare a b) == some Ordering.gt)=decide (b<a):=by
 simp only [compare,compareOfLessAndEq];by_cases h:a<b
 ·rw [if_pos h,decide_eq_false (by omega)];rfl
 ·rw [if_neg h];by_cases g:a=b
  ·rw [if_pos g,decide_eq_false (by omega)];rfl
  ·rw [if_neg g,decide_eq_true (by omega)];rfl
def Num(x:Nat):Prop:=x<18446744073709551616∧rg x≤9218868437227405312
theorem ord_eq{x y:Nat}(hx:Num x)(hy:Num y):(Ieee.double.order x y == some .eq)=decide (rk x=rk y):=by rw [order_any x y hx.1 hy.1 hx.2 hy.2,c_eq]
theorem ord_lt{x y:Nat}(hx:Num x)(hy:Num y):(Ieee.double.order x y == some .lt)=decide (rk x<rk y):=by rw [order_any x y hx.1 hy.1 hx.2 hy.2,c_lt]
theorem ord_gt{x y:Nat}(hx:Num x)(hy:Num y):(Ieee.double.order x y == some .gt)=decide (rk y<rk x):=by rw [order_any x y hx.1 hy.1 hx.2 hy.2,c_gt]
theorem num_lit{x:Nat}(h:x<18446744073709551616)(h':x % 9223372036854775808≤9218868437227405312):Num x:=⟨h,h'⟩
theorem rk_pos{x:Nat}(h:x<9223372036854775808):rk x=x:=by unfold rk sg rg;rw [decide_eq_false (by omega)];simp only [Bool.false_eq_true,if_false];omega
theorem mk_rg(s:Bool)(e m:Nat)(h1:e≤2047)(h3:m<4503599627370496):rg (mk s e m)=e * 4503599627370496+m:=by
 unfold rg mk;cases s
 ·simp only [Bool.false_eq_true,if_false];omega
 ·simp only [if_true];omega
def nearF(m:Nat)(p:Int):Nat×Bool:=if 0≤p then (m * 2 ^ p.toNat,true) else (cut m (-p).toNat,decide (m % 2 ^ (-p).toNat=0))
def rteF(y:Nat):Nat:=Ieee.double.write ((Ieee.double.read y).integral .even)
theorem cut_small(m d:Nat)(h:2 * m<2 ^ d):cut m d=0:=by
 unfold cut;rw [Nat.div_eq_of_lt (by omega),Nat.mod_eq_of_lt (by omega)];have e1:decide (2 ^ d<2 * m)=false:=by rw [decide_eq_false_iff_not];omega
 have e2:(2 ^ d == 2 * m)=false:=by rw [beq_eq_false_iff_ne];omega
 rw [e1,e2];rfl
theorem log2_le{n k:Nat}(h:n≤2 ^ k):n.log2≤k:=by
 by_cases h0:n=0
 ·subst h0;simp
 ·have h1:2 ^ n.log2≤n:=Nat.log2_self_le h0;exact (Nat.pow_le_pow_iff_right (by omega:1<2)).1 (Nat.le_trans h1 h)
theorem cut_log(k d:Nat)(hk:k<9007199254740992)(hd:1≤d):(cut k d).log2≤52:=by
 refine log2_le ?_;have h1:=cut_le k d;have h2:k / 2 ^ d≤k / 2:=by obtain ⟨j,rfl⟩:∃ j,d=j+1:=⟨d-1,by omega⟩;rw [Nat.pow_succ,Nat.mul_comm,←Nat.div_div_eq_div_mul];exact Nat.div_le_self _ _
 omega
theorem rte_mk(s:Bool)(e m:Nat)(h1:1≤e)(h2:e≤2046)(h3:m<4503599627370496) :
  rteF (mk s e m)=if 1075≤e then mk s e m else (if s then 9223372036854775808 else 0)+rgN (cut (4503599627370496+m) (1075-e)):=by
 unfold rteF;rw [read_mk s e m h1 h2 h3];unfold Ieee.Datum.integral
 dsimp only
 rw [even_cut];unfold Ieee.Format.write
 dsimp only
 by_cases h:1075≤e
 ·rw [if_pos h,show (-((e:Int)-1075)).toNat=0 by omega,cut_zero,Nat.shiftLeft_eq,show ((e:Int)-1075).toNat=e-1075 by omega,nearest_norm s _ _ _ (by omega) (by omega) (by omega) (by omega)];rw [show ((0:Int)+((e-1075:Nat):Int)+1075).toNat=e by omega,Nat.add_sub_cancel_left]
 ·rw [if_neg h,show ((e:Int)-1075).toNat=0 by omega,show (-((e:Int)-1075)).toNat=1075-e by omega,Nat.shiftLeft_zero];exact nearest_nat s _ (cut_log _ _ (by omega) (by omega))
theorem rte_same(e m:Nat)(h1:1≤e)(h:e<1075)(h3:m<4503599627370496):rgN (cut (4503599627370496+m) (1075-e))=e * 4503599627370496+m↔(4503599627370496+m) % 2 ^ (1075-e)=0:=by
 have hlog:=cut_log (4503599627370496+m) (1075-e) (by omega) (by omega);have hp:0<2 ^ (1075-e):=Nat.pow_pos (by omega);constructor
 ·intro hr;unfold rgN at hr;by_cases h0:cut (4503599627370496+m) (1075-e)=0
  ·rw [if_pos h0] at hr;omega
  ·rw [if_neg h0] at hr;have hb:=norm_bounds h0 hlog;have hd:52-(cut (4503599627370496+m) (1075-e)).log2=1075-e:=(by omega);have hN:cut (4503599627370496+m) (1075-e) * 2 ^ (1075-e)=4503599627370496+m:=by rw [←hd] at hb ⊢;rw [hd] at hb ⊢;rw [hd] at hr;omega
   rw [←hN];exact Nat.mul_mod_left _ _
 ·intro hz;have hc:=cut_exact _ _ hz;have hN:(4503599627370496+m) / 2 ^ (1075-e) * 2 ^ (1075-e)=4503599627370496+m:=Nat.div_mul_cancel (Nat.dvd_of_mod_eq_zero hz);rw [hc] at hlog ⊢;generalize hq:(4503599627370496+m) / 2 ^ (1075-e)=q at hlog hN ⊢;have q0:q≠0:=by intro h;rw [h] at hN;omega
  have hd:1075-e≤52:=by
   rcases Nat.lt_or_ge 52 (1075-e) with hlt|hge
   ·have:2 ^ 53≤2 ^ (1075-e):=Nat.pow_le_pow_right (by omega) (by omega);have:1 * 2 ^ (1075-e)≤q * 2 ^ (1075-e):=Nat.mul_le_mul_right _ (by omega);omega
   ·exact hge
  have hl:q.log2=52-(1075-e):=by
   refine log2_eq ?_ ?_
   ·have:2 ^ (52-(1075-e)) * 2 ^ (1075-e)≤q * 2 ^ (1075-e):=by rw [←Nat.pow_add,hN,show 52-(1075-e)+(1075-e)=52 by omega];omega
    exact Nat.le_of_mul_le_mul_right this hp
   ·have:q * 2 ^ (1075-e)<2 ^ (52-(1075-e)+1) * 2 ^ (1075-e):=by rw [←Nat.pow_add,hN,show 52-(1075-e)+1+(1075-e)=53 by omega];omega
    exact Nat.lt_of_mul_lt_mul_right this
  unfold rgN;rw [if_neg q0,hl,show 52-(52-(1075-e))=1075-e by omega,hN];omega
end Go.Proofs.YtcgmgdjeamidlaaGreat.Fl
