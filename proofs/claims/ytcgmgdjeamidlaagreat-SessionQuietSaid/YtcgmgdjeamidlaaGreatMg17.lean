/- Texts of one proof, joined. -/
import Derived.Test.YtcgmgdjeamidlaaGreatGen
import Derived.Test.YtcgmgdjeamidlaaGreatQuBits
import Derived.Test.YtcgmgdjeamidlaaGreatProg
import Derived.Test.YtcgmgdjeamidlaaGreatMg12
import Derived.Laws.Externs
import Derived.Laws.FloatArith
namespace Go.Proofs.YtcgmgdjeamidlaaGreat
set_option maxRecDepth 100000
set_option maxHeartbeats 16000000
open Go.RowKit Go.ChangeShapes Go.WideShapes Go.ChangeAt
set_option linter.unusedVariables false
theorem run_bits(x:Nat)(w:World):(callFunc 205 #[.float .f64 x]).run Tryz.prog w=.ok (.value (.int .u64 x)) w:=by rw [run_callFunc_extern (e:=Extern.MathFloatBits.float64bits) Tryz.func205 (by kernel_rfl) (by kernel_rfl) (by kernel_rfl) (by kernel_rfl)];rfl
theorem run_frombits(x:Int)(w:World):(callFunc 199 #[.int .u64 x]).run Tryz.prog w=.ok (.value (.float .f64 x.toNat)) w:=by rw [run_callFunc_extern (e:=Extern.MathFloatBits.float64frombits) Tryz.func199 (by kernel_rfl) (by kernel_rfl) (by kernel_rfl) (by kernel_rfl)];rfl
theorem run_rte(x:Nat)(w:World)(h:∀ s t,FloatKind.f64.decode x≠.nan s t):(callFunc 201 #[.float .f64 x]).run Tryz.prog w=.ok (.value (.float .f64 (FloatKind.f64.encode ((FloatKind.f64.decode x).integral .even)))) w:=by
 rw [run_callFunc_extern (e:=Extern.MathFloor.toIntegral "math.RoundToEven" .even) Tryz.func201 (by kernel_rfl) (by kernel_rfl) (by kernel_rfl) (by kernel_rfl)];have e:(Extern.MathFloor.toIntegral "math.RoundToEven" .even #[.float .f64 x]).run Tryz.prog w=.ok (.float .f64 (FloatKind.f64.encode ((FloatKind.f64.decode x).integral .even))) w:=by
  show Sem.run _ (match FloatKind.f64.decode x with
   | .nan s t=>_
   | d=>_) w=_
  generalize hd:FloatKind.f64.decode x=d;rw [hd] at h;cases d with
  | nan s t=>exact absurd rfl (h s t)
  | infinity s=>rfl
  | number s m i=>rfl
 rw [e];rfl
theorem abs_any(x:Nat)(w:World)(hx:x<18446744073709551616) :
  Calls Tryz.prog 211 #[.float .f64 x] w fun e w'=>e=.returned (.float .f64 (x % 9223372036854775808))∧w'=w:=by
 have r1:=run_bits;have r2:=run_frombits;have r3:=offtop x (by omega) (by omega);go_enter Tryz.func211,Tryz.ntmps211
 go_wp2
 go_ret;exact ⟨by congr 2,rfl⟩
theorem signbit_any(x:Nat)(w:World)(hx:x<18446744073709551616) :
  Calls Tryz.prog 202 #[.float .f64 x] w fun e w'=>e=.returned (.bool (decide (9223372036854775808≤x)))∧w'=w:=by
 have r1:=run_bits;go_enter Tryz.func202,Tryz.ntmps202
 go_wp2
 go_ret;exact ⟨ret_bool (by rw [decide_eq_decide];unfold wrap64;omega),rfl⟩
theorem isnan_any(x:Nat)(w:World)(b:Bool)(hx:(FloatKind.f64.format.order x x != some .eq)=b) :
  Calls Tryz.prog 207 #[.float .f64 x] w fun e w'=>e=.returned (.bool b)∧w'=w:=by
 go_enter Tryz.func207,Tryz.ntmps207
 go_wp2
 go_ret;exact ⟨rfl,rfl⟩
theorem isinf_any(x:Nat)(w:World)(b:Bool)(hx:x<18446744073709551616)(h:(FloatKind.f64.format.order (x % 9223372036854775808) 9218868437227405311 == some .gt)=b) :
  Calls Tryz.prog 206 #[.float .f64 x,.int .i64 0] w fun e w'=>e=.returned (.bool b)∧w'=w:=by
 go_enter Tryz.func206,Tryz.ntmps206;go_wp2_with fail;refine (abs_any x _ hx).mono ?_;rintro e w' ⟨rfl,rfl⟩;go_wp2_with fail;go_ret;exact ⟨rfl,rfl⟩
theorem normalize_big(x:Nat)(w:World)(hx:x<18446744073709551616)(h:(FloatKind.f64.format.order (x % 9223372036854775808) 4503599627370496 == some .lt)=false) :
  Calls Tryz.prog 208 #[.float .f64 x] w fun e w'=>e=.returned (.tuple #[.float .f64 x,.int .i64 0])∧w'=w:=by
 go_enter Tryz.func208,Tryz.ntmps208;go_wp2_with fail;refine (abs_any x _ hx).mono ?_;rintro e w' ⟨rfl,rfl⟩;go_wp2_with fail;go_ret2;exact ⟨rfl,rfl⟩
theorem ldexp_norm(s:Bool)(e m:Nat)(k:Int)(w:World)(h1:1≤e)(h2:e≤2046)(h3:m<4503599627370496)(k1 : -64≤k)(k2:k≤64)(g1:1≤e+k)(g2:e+k≤2046) :
  Calls Tryz.prog 204 #[.float .f64 (Fl.mk s e m),.int .i64 k] w fun e' w'=>e'=.returned (.float .f64 (Fl.mk s (e+k).toNat m))∧w'=w:=by
 obtain ⟨a,b,c,d⟩:=Fl.mk_fields s e m (by omega) h3;have hr:=Fl.mk_rg s e m (by omega) h3;have ho:=Fl.mul_one s (e+k).toNat m (by omega) (by omega) h3;have hy:=Fl.mk_fields s (e+k).toNat m (by omega) h3;obtain ⟨x,hx⟩:∃ x,x=Fl.mk s e m:=⟨_,rfl⟩;obtain ⟨y,hy⟩:∃ y,y=Fl.mk s (e+k).toNat m:=⟨_,rfl⟩;rw [←hx] at a b c d hr ⊢;rw [←hy] at ho ⊢;have nx:Fl.Num x:=⟨d,by rw [hr];omega⟩;have na:Fl.Num (x % 9223372036854775808):=⟨by omega,by unfold Fl.rg at hr ⊢;omega⟩;have ka:Fl.rk (x % 9223372036854775808)=(e * 4503599627370496+m:Nat):=by rw [Fl.rk_pos (by omega)];unfold Fl.rg at hr;omega
 have o1:(FloatKind.f64.format.order x 0 == some .eq)=false:=by show (Ieee.double.order x 0 == _)=_;rw [Fl.ord_eq nx (Fl.num_lit (by omega) (by omega)),Fl.rk_pos (x:=0) (by omega)];unfold Fl.rk;rw [hr,decide_eq_false_iff_not];split<;>omega
 have o2:=isinf_any x w false d (by show (Ieee.double.order _ _ == _)=_;rw [Fl.ord_gt na (Fl.num_lit (by omega) (by omega)),ka,Fl.rk_pos (by omega),decide_eq_false_iff_not];omega)
 have o3:=isnan_any x w false (by show (!(Ieee.double.order _ _ == _))=_;rw [Fl.ord_eq nx nx,decide_eq_true rfl];rfl)
 have o4:=normalize_big x w d (by show (Ieee.double.order _ _ == _)=_;rw [Fl.ord_lt na (Fl.num_lit (by omega) (by omega)),ka,Fl.rk_pos (by omega),decide_eq_false_iff_not];omega)
 have f1:bits .and .i64 ((x:Int) / 4503599627370496) 2047=(e:Int):=by rw [field_and x d];unfold Fl.fld at a;omega
 have f2:bits .andNot .u64 (x:Int) 9218868437227405312=(((if s then 9223372036854775808 else 0)+m:Nat):Int):=by rw [off_field x d];unfold Fl.frc at b;unfold Fl.sg at c;rw [b,←c];simp only [decide_eq_true_eq]
 have f3:bits .or .u64 (((if s then 9223372036854775808 else 0)+m:Nat):Int) ((k+((e:Int)-1023)+1023) * 4503599627370496)=(y:Int):=by rw [show (k+((e:Int)-1023)+1023)=(((e+k).toNat:Nat):Int) by omega,or_field s m _ h3 (by omega),hy];rfl
 generalize (if s then 9223372036854775808 else 0)+m=B at f2 f3;have fm:∀ w,(binOp .mul 255 (.float .f64 4607182418800017408) (.float .f64 y)).run Tryz.prog w=.ok (.float .f64 y) w:=by intro w;have ho':FloatKind.f64.format.mul 4607182418800017408 y=some y:=ho;simp [binOp,Op.floatArith,ho']
 have HX:=Lib.hid hx;have HY:=Lib.hid hy;clear hx hy nx na ka;have r1:=run_bits;have r2:=run_frombits;go_enter Tryz.func204,Tryz.ntmps204;go_wp2_with fail;refine o2.mono ?_;rintro _ w' ⟨rfl,rfl⟩;go_wp2_with fail;refine o3.mono ?_;rintro _ w' ⟨rfl,rfl⟩;go_wp2_with fail;refine o4.mono ?_;rintro _ w' ⟨rfl,rfl⟩;go_wp2_with fail;go_ret;exact ⟨rfl,rfl⟩
theorem Ldexp_norm(s:Bool)(e m:Nat)(k:Int)(w:World)(h1:1≤e)(h2:e≤2046)(h3:m<4503599627370496)(k1 : -64≤k)(k2:k≤64)(g1:1≤e+k)(g2:e+k≤2046) :
  Calls Tryz.prog 200 #[.float .f64 (Fl.mk s e m),.int .i64 k] w fun e' w'=>e'=.returned (.float .f64 (Fl.mk s (e+k).toNat m))∧w'=w:=by
 have H:=Lib.hid (ldexp_norm s e m k w h1 h2 h3 k1 k2 g1 g2);generalize Fl.mk s (e+k).toNat m=y at H ⊢;generalize Fl.mk s e m=x at H ⊢;clear h1 h2 h3 k1 k2 g1 g2;go_enter Tryz.func200,Tryz.ntmps200;go_wp2_with fail;refine H.out.mono ?_;rintro _ w' ⟨rfl,rfl⟩;go_wp2_with fail;go_ret;exact ⟨rfl,rfl⟩

theorem rk_zero_iff(x:Nat):Fl.rk x=0↔Fl.rg x=0:=by unfold Fl.rk;split<;>omega
theorem num_abs{x:Nat}(h:Fl.Num x):Fl.Num (x % 9223372036854775808):=⟨by omega,by have:=h.2;unfold Fl.rg at *;omega⟩
theorem rk_abs(x:Nat):Fl.rk (x % 9223372036854775808)=(Fl.rg x:Int):=by rw [Fl.rk_pos (by omega)];rfl
theorem self_eq{x:Nat}(h:Fl.Num x):(FloatKind.f64.format.order x x != some .eq)=false:=by show (!(Ieee.double.order x x == some .eq))=false;rw [Fl.ord_eq h h,decide_eq_true rfl];rfl
theorem self_nan{x:Nat}(hx:x<18446744073709551616)(h:9218868437227405312<Fl.rg x):(FloatKind.f64.format.order x x != some .eq)=true:=by show (!(Ieee.double.order x x == some .eq))=true;rw [Fl.order_nan x x hx h];rfl
theorem zero_eq{x:Nat}(h:Fl.Num x):(FloatKind.f64.format.order x 0 == some .eq)=decide (Fl.rg x=0):=by show (Ieee.double.order x 0 == some .eq)=_;rw [Fl.ord_eq h (Fl.num_lit (by omega) (by omega)),Fl.rk_pos (x:=0) (by omega),decide_eq_decide];exact rk_zero_iff x
theorem isinf_num{x:Nat}(w:World)(h:Fl.Num x):Calls Tryz.prog 206 #[.float .f64 x,.int .i64 0] w fun e w'=>e=.returned (.bool (decide (Fl.rg x=9218868437227405312)))∧w'=w:=by refine isinf_any x w _ h.1 ?_;show (Ieee.double.order _ _ == _)=_;rw [Fl.ord_gt (num_abs h) (Fl.num_lit (by omega) (by omega)),rk_abs,Fl.rk_pos (by omega),decide_eq_decide];have:=h.2;omega



def nearG(m:Nat)(p:Int):Nat×Bool:=if m=0 then (0,true) else Fl.nearF m p
def limV(s:Bool)(N:Nat):Int:=if s then (if 2147483648<N then -2147483648 else -(N:Int)) else (if 2147483647<N then 2147483647 else N)
def limM(s:Bool)(N:Nat)(ex:Bool):Int:=if s then (if 2147483648<N then 2 else (if ex then 0 else 1)+(if N=0 then 4 else 0)) else (if 2147483647<N then 2 else (if ex then 0 else 1))
def quantG(x:Nat)(k:Int):Int×Int×Int:=
 if k < -64∨64<k then (0,0,2) else if 9218868437227405312<Fl.rg x then (0,0,10) else if Fl.rg x=9218868437227405312 then (if Fl.sg x then -2147483648 else 2147483647,2,0)
 else (limV (Fl.sg x) (nearG (Fl.mM x) ((Fl.mE x:Int)-1075+k)).1,limM (Fl.sg x) (nearG (Fl.mM x) ((Fl.mE x:Int)-1075+k)).1 (nearG (Fl.mM x) ((Fl.mE x:Int)-1075+k)).2,0)
theorem good_any(k:Int)(w:World):Calls Tryz.prog 196 #[.int .i64 k] w fun e w'=>e=.returned (.bool (decide (-64≤k∧k≤64)))∧w'=w:=by
 by_cases h1 : -64≤k
 ·by_cases h2:k≤64
  ·rw [decide_eq_true ⟨h1,h2⟩];go_enter Tryz.func196,Tryz.ntmps196
   go_wp2
   go_ret;exact ⟨rfl,rfl⟩
  ·rw [decide_eq_false (fun h=>h2 h.2)];have h3:64<k:=(by omega);go_enter Tryz.func196,Tryz.ntmps196
   go_wp2
   go_ret;exact ⟨ret_bool (by first|rfl|exact decide_eq_false (by omega)),rfl⟩
 ·rw [decide_eq_false (fun h=>h1 h.1)];have h3:k < -64:=by omega
  go_enter Tryz.func196,Tryz.ntmps196
  go_wp2
  go_ret;exact ⟨ret_bool (by first|rfl|exact decide_eq_false (by omega)),rfl⟩
theorem Ldexp_of(x y:Nat)(k:Int)(w:World)(h:Calls Tryz.prog 204 #[.float .f64 x,.int .i64 k] w fun e' w'=>e'=.returned (.float .f64 y)∧w'=w) :
  Calls Tryz.prog 200 #[.float .f64 x,.int .i64 k] w fun e' w'=>e'=.returned (.float .f64 y)∧w'=w:=by
 have H:=Lib.hid h;clear h;go_enter Tryz.func200,Tryz.ntmps200;go_wp2_with fail;refine H.out.mono ?_;rintro _ w' ⟨rfl,rfl⟩;go_wp2_with fail;go_ret;exact ⟨rfl,rfl⟩
theorem ldexp_zero(x:Nat)(k:Int)(w:World)(h:Fl.Num x)(h0:Fl.rg x=0):Calls Tryz.prog 204 #[.float .f64 x,.int .i64 k] w fun e' w'=>e'=.returned (.float .f64 x)∧w'=w:=by have o1:=zero_eq h;rw [decide_eq_true h0] at o1;go_enter Tryz.func204,Tryz.ntmps204;go_wp2_with fail;go_ret;exact ⟨rfl,rfl⟩
theorem ldexp_inf(x:Nat)(k:Int)(w:World)(h:Fl.Num x)(h0:Fl.rg x=9218868437227405312):Calls Tryz.prog 204 #[.float .f64 x,.int .i64 k] w fun e' w'=>e'=.returned (.float .f64 x)∧w'=w:=by have o1:=zero_eq h;rw [decide_eq_false (by omega)] at o1;have i1:=Lib.hid (isinf_num w h);rw [decide_eq_true h0] at i1;go_enter Tryz.func204,Tryz.ntmps204;go_wp2_with fail;refine i1.out.mono ?_;rintro _ w' ⟨rfl,rfl⟩;go_wp2_with fail;go_ret;exact ⟨rfl,rfl⟩
theorem inf_any(k:Int)(w:World)(h:k=1∨k = -1):Calls Tryz.prog 210 #[.int .i64 k] w fun e w'=>e=.returned (.float .f64 (if 0≤k then 9218868437227405312 else 18442240474082181120))∧w'=w:=by
 have r2:=run_frombits;rcases h with rfl|rfl;all_goals
  go_enter Tryz.func210,Tryz.ntmps210
  go_wp2
  go_ret;exact ⟨rfl,rfl⟩
theorem ldexp_over(s:Bool)(e m:Nat)(k:Int)(w:World)(h1:1≤e)(h2:e≤2046)(h3:m<4503599627370496)(k1 : -64≤k)(k2:k≤64)(g1:2047≤e+k) :
  Calls Tryz.prog 204 #[.float .f64 (Fl.mk s e m),.int .i64 k] w fun e' w'=>e'=.returned (.float .f64 (Fl.mk s 2047 0))∧w'=w:=by
 obtain ⟨a,b,c,d⟩:=Fl.mk_fields s e m (by omega) h3;have hr:=Fl.mk_rg s e m (by omega) h3;obtain ⟨x,hx⟩:∃ x,x=Fl.mk s e m:=⟨_,rfl⟩;obtain ⟨y,hy⟩:∃ y,y=Fl.mk s (e+k).toNat m:=⟨_,rfl⟩;rw [←hx] at a b c d hr ⊢;have nx:Fl.Num x:=⟨d,by rw [hr];omega⟩;have na:Fl.Num (x % 9223372036854775808):=⟨by omega,by unfold Fl.rg at hr ⊢;omega⟩;have ka:Fl.rk (x % 9223372036854775808)=(e * 4503599627370496+m:Nat):=by rw [Fl.rk_pos (by omega)];unfold Fl.rg at hr;omega
 have o1:(FloatKind.f64.format.order x 0 == some .eq)=false:=by show (Ieee.double.order x 0 == _)=_;rw [Fl.ord_eq nx (Fl.num_lit (by omega) (by omega)),Fl.rk_pos (x:=0) (by omega)];unfold Fl.rk;rw [hr,decide_eq_false_iff_not];split<;>omega
 have o2:=isinf_any x w false d (by show (Ieee.double.order _ _ == _)=_;rw [Fl.ord_gt na (Fl.num_lit (by omega) (by omega)),ka,Fl.rk_pos (by omega),decide_eq_false_iff_not];omega)
 have o3:=isnan_any x w false (by show (!(Ieee.double.order _ _ == _))=_;rw [Fl.ord_eq nx nx,decide_eq_true rfl];rfl)
 have o4:=normalize_big x w d (by show (Ieee.double.order _ _ == _)=_;rw [Fl.ord_lt na (Fl.num_lit (by omega) (by omega)),ka,Fl.rk_pos (by omega),decide_eq_false_iff_not];omega)
 have f1:bits .and .i64 ((x:Int) / 4503599627370496) 2047=(e:Int):=by rw [field_and x d];unfold Fl.fld at a;omega
 have o5:(FloatKind.f64.format.order x 0 == some .lt)=s:=by
  show (Ieee.double.order x 0 == _)=_;rw [Fl.ord_lt nx (Fl.num_lit (by omega) (by omega)),Fl.rk_pos (x:=0) (by omega)];unfold Fl.rk;rw [c,hr];cases s
  ·simp only [Bool.false_eq_true,if_false];rw [decide_eq_false (by omega)]
  ·simp only [if_true];rw [decide_eq_true (by omega)]
 have HX:=Lib.hid hx;clear hx nx na ka;cases s;all_goals
  have r1:=run_bits;have r2:=run_frombits;go_enter Tryz.func204,Tryz.ntmps204;go_wp2_with fail;refine o2.mono ?_;rintro _ w' ⟨rfl,rfl⟩;go_wp2_with fail;refine o3.mono ?_;rintro _ w' ⟨rfl,rfl⟩;go_wp2_with fail;refine o4.mono ?_;rintro _ w' ⟨rfl,rfl⟩;go_wp2_with fail;refine (inf_any _ _ (by omega)).mono ?_;rintro _ w' ⟨rfl,rfl⟩;go_wp2_with fail;go_ret;exact ⟨rfl,rfl⟩
theorem Fl.mul_sub(s:Bool)(f:Nat)(h0:0<f)(h1:f<4503599627370496) :
  Ieee.double.mul (Fl.mk s 0 f) 4841369599423283200=some (Fl.mk s (f.log2+1) (f * 2 ^ (52-f.log2)-4503599627370496))∧f * 2 ^ (52-f.log2)-4503599627370496<4503599627370496∧f.log2+1≤52:=by
 have hl:f.log2≤51:=by have a1:2 ^ f.log2≤f:=Nat.log2_self_le (by omega);have a2:2 ^ f.log2<2 ^ 52:=Nat.lt_of_le_of_lt a1 h1;have:=(Nat.pow_lt_pow_iff_right (by omega:1<2)).1 a2;omega
 obtain ⟨b1,b2⟩:=Fl.norm_bounds (show f≠0 by omega) (by omega);refine ⟨?_,by omega,by omega⟩;have e1:(4841369599423283200:Nat)=Fl.mk false 1075 0:=by decide
 unfold Ieee.Format.mul;have rd:Ieee.double.read (Fl.mk s 0 f)=.number s f (-1074):=by obtain ⟨a,b,c,d⟩:=Fl.mk_fields s 0 f (by omega) h1;rw [Fl.read_eq _ d,a,b,c,if_neg (by omega),if_pos rfl]
 rw [e1,Fl.read_mk false 1075 0 (by omega) (by omega) (by omega),rd];unfold Ieee.Datum.product
 dsimp only
 rw [Option.map_some];unfold Ieee.Format.write
 dsimp only
 have e2:f * (4503599627370496+0)=f * 2 ^ (52-f.log2) * 2 ^ f.log2:=by rw [Nat.mul_assoc,←Nat.pow_add,show 52-f.log2+f.log2=52 by omega]
 rw [Bool.xor_false,e2,Fl.nearest_norm s _ _ _ b1 b2 (by omega) (by omega)];rw [show ((-1074:Int)+(((1075:Nat):Int)-1075)+((f.log2:Nat):Int)+1075).toNat=f.log2+1 by omega]
theorem Fl.mul_tiny(s:Bool)(F m:Nat)(h1:1≤F)(h2:F≤60)(h3:m<4503599627370496) :
  ∃ r,Ieee.double.mul 4368491638549381120 (Fl.mk s F m)=some ((if s then 9223372036854775808 else 0)+r)∧r≤900719925474099200:=by
 have e1:(4368491638549381120:Nat)=Fl.mk false 970 0:=by decide
 unfold Ieee.Format.mul;rw [e1,Fl.read_mk false 970 0 (by omega) (by omega) (by omega),Fl.read_mk s F m h1 (by omega) h3];unfold Ieee.Datum.product
 dsimp only
 rw [Option.map_some];unfold Ieee.Format.write
 dsimp only
 rw [Bool.false_xor];have hlog:((4503599627370496+0) * (4503599627370496+m)).log2≤105:=by refine Fl.log2_le ?_;have:(4503599627370496+0) * (4503599627370496+m)≤4503599627370496 * 9007199254740992:=Nat.mul_le_mul (by omega) (by omega);exact Nat.le_trans this (by decide)
 obtain ⟨r,hr,hb⟩:=Fl.nearest_tiny s ((4503599627370496+0) * (4503599627370496+m)) (((970:Nat):Int)-1075+((F:Int)-1075)) (by omega);exact ⟨r,by rw [hr],hb⟩
theorem copysign0(x:Nat)(w:World)(hx:x<18446744073709551616):Calls Tryz.prog 209 #[.float .f64 0,.float .f64 x] w fun e w'=>e=.returned (.float .f64 (if Fl.sg x then 9223372036854775808 else 0))∧w'=w:=by
 have r1:=run_bits;have r2:=run_frombits;have c0:bits .andNot .u64 0 9223372036854775808=0:=by decide +kernel
 by_cases h:9223372036854775808≤x
 ·have hs:Fl.sg x=true:=by unfold Fl.sg;exact decide_eq_true h
  have c1:=hiand_hi x (by omega) (by omega);have c2:bits .or .u64 0 9223372036854775808=9223372036854775808:=by decide +kernel
  rw [hs];clear hs h;go_enter Tryz.func209,Tryz.ntmps209
  go_wp2
  go_ret;exact ⟨rfl,rfl⟩
 ·have hs:Fl.sg x=false:=by unfold Fl.sg;exact decide_eq_false h
  have c1:=hiand_lo x (by omega) (by omega);have c2:bits .or .u64 0 0=0:=by decide +kernel
  rw [hs];clear hs h;go_enter Tryz.func209,Tryz.ntmps209
  go_wp2
  go_ret;exact ⟨rfl,rfl⟩
theorem normalize_sub(s:Bool)(f:Nat)(w:World)(h0:0<f)(h1:f<4503599627370496) :
  Calls Tryz.prog 208 #[.float .f64 (Fl.mk s 0 f)] w fun e w'=>e=.returned (.tuple #[.float .f64 (Fl.mk s (f.log2+1) (f * 2 ^ (52-f.log2)-4503599627370496)),.int .i64 (-52)])∧w'=w:=by
 obtain ⟨a,b,c,d⟩:=Fl.mk_fields s 0 f (by omega) h1;have hr:=Fl.mk_rg s 0 f (by omega) h1;have ho:=(Fl.mul_sub s f h0 h1).1;generalize Fl.mk s (f.log2+1) (f * 2 ^ (52-f.log2)-4503599627370496)=y at ho ⊢;generalize Fl.mk s 0 f=x at a b c d hr ho ⊢;have nx:Fl.Num x:=⟨d,by rw [hr];omega⟩;have o1:(FloatKind.f64.format.order (x % 9223372036854775808) 4503599627370496 == some .lt)=true:=by show (Ieee.double.order _ _ == _)=_;rw [Fl.ord_lt (num_abs nx) (Fl.num_lit (by omega) (by omega)),rk_abs,Fl.rk_pos (by omega),decide_eq_true_eq];omega
 have fm:∀ w,(binOp .mul 255 (.float .f64 x) (.float .f64 4841369599423283200)).run Tryz.prog w=.ok (.float .f64 y) w:=by intro w;have ho':FloatKind.f64.format.mul x 4841369599423283200=some y:=ho;simp [binOp,Op.floatArith,ho']
 have A1:=Lib.hid (abs_any x w d);clear nx a b c hr ho h0 h1 d;go_enter Tryz.func208,Tryz.ntmps208;go_wp2_with fail;refine A1.out.mono ?_;rintro e w' ⟨rfl,rfl⟩;go_wp2_with fail;go_ret2;exact ⟨rfl,rfl⟩
theorem fin_facts(x:Nat)(hx:x<18446744073709551616)(h0:Fl.rg x≠0)(h1:Fl.rg x<9218868437227405312) :
  Fl.Num x∧(FloatKind.f64.format.order x 0 == some .eq)=false∧(∀ w,Calls Tryz.prog 206 #[.float .f64 x,.int .i64 0] w fun e w'=>e=.returned (.bool false)∧w'=w)∧(∀ w,Calls Tryz.prog 207 #[.float .f64 x] w fun e w'=>e=.returned (.bool false)∧w'=w):=by
 have nx:Fl.Num x:=⟨hx,by omega⟩;refine ⟨nx,?_,fun w=>?_,fun w=>?_⟩
 ·rw [zero_eq nx,decide_eq_false h0]
 ·have:=isinf_num w nx;rw [decide_eq_false (by omega)] at this;exact this
 ·exact isnan_any x w false (self_eq nx)
theorem ldexp_mid(x:Nat)(s:Bool)(e m:Nat)(k k2:Int)(hx:x<18446744073709551616)(h0:Fl.rg x≠0)(hf:Fl.rg x<9218868437227405312)(h1:1≤e)(h2:e≤2046)(h3:m<4503599627370496)(k1 : -64≤k)(k1':k≤64)(j1 : -52≤k2)(j2:k2≤0)(g1:1≤e+(k+k2))(g2:e+(k+k2)≤2046)
  (HN:∀ w,Calls Tryz.prog 208 #[.float .f64 x] w fun e' w'=>e'=.returned (.tuple #[.float .f64 (Fl.mk s e m),.int .i64 k2])∧w'=w) (w:World) :
  Calls Tryz.prog 204 #[.float .f64 x,.int .i64 k] w fun e' w'=>e'=.returned (.float .f64 (Fl.mk s (e+(k+k2)).toNat m))∧w'=w:=by
 obtain ⟨nx,o1,i1,n1⟩:=fin_facts x hx h0 hf;obtain ⟨a,b,c,d⟩:=Fl.mk_fields s e m (by omega) h3;have ho:=Fl.mul_one s (e+(k+k2)).toNat m (by omega) (by omega) h3;obtain ⟨u,hu⟩:∃ u,u=Fl.mk s e m:=⟨_,rfl⟩;obtain ⟨y,hy⟩:∃ y,y=Fl.mk s (e+(k+k2)).toNat m:=⟨_,rfl⟩;rw [←hu] at a b c d HN;rw [←hy] at ho ⊢;have f1:bits .and .i64 ((u:Int) / 4503599627370496) 2047=(e:Int):=by rw [field_and u d];unfold Fl.fld at a;omega
 have f2:bits .andNot .u64 (u:Int) 9218868437227405312=(((if s then 9223372036854775808 else 0)+m:Nat):Int):=by rw [off_field u d];unfold Fl.frc at b;unfold Fl.sg at c;rw [b,←c];simp only [decide_eq_true_eq]
 have f3:bits .or .u64 (((if s then 9223372036854775808 else 0)+m:Nat):Int) ((k+k2+((e:Int)-1023)+1023) * 4503599627370496)=(y:Int):=by rw [show (k+k2+((e:Int)-1023)+1023)=(((e+(k+k2)).toNat:Nat):Int) by omega,or_field s m _ h3 (by omega),hy];rfl
 generalize (if s then 9223372036854775808 else 0)+m=B at f2 f3;have fm:∀ w,(binOp .mul 255 (.float .f64 4607182418800017408) (.float .f64 y)).run Tryz.prog w=.ok (.float .f64 y) w:=by intro w;have ho':FloatKind.f64.format.mul 4607182418800017408 y=some y:=ho;simp [binOp,Op.floatArith,ho']
 have I1:=Lib.hid i1;have N1:=Lib.hid n1;have H1:=Lib.hid HN;clear hy nx hu i1 n1 HN ho;have r1:=run_bits;have r2:=run_frombits;go_enter Tryz.func204,Tryz.ntmps204;go_wp2_with fail;refine (I1.out _).mono ?_;rintro _ w' ⟨rfl,rfl⟩;go_wp2_with fail;refine (N1.out _).mono ?_;rintro _ w' ⟨rfl,rfl⟩;go_wp2_with fail;refine (H1.out _).mono ?_;rintro _ w' ⟨rfl,rfl⟩;go_wp2_with fail;go_ret;exact ⟨rfl,rfl⟩
theorem ldexp_low(x:Nat)(s:Bool)(e m:Nat)(k k2:Int)(hx:x<18446744073709551616)(h0:Fl.rg x≠0)(hf:Fl.rg x<9218868437227405312)(h1:1≤e)(h2:e≤2046)(h3:m<4503599627370496)(k1 : -64≤k)(k1':k≤64)(j1 : -52≤k2)(j2:k2≤0)(g1:e+(k+k2)≤0)
  (HN:∀ w,Calls Tryz.prog 208 #[.float .f64 x] w fun e' w'=>e'=.returned (.tuple #[.float .f64 (Fl.mk s e m),.int .i64 k2])∧w'=w) :
  ∃ r,r≤900719925474099200∧∀ w,Calls Tryz.prog 204 #[.float .f64 x,.int .i64 k] w fun e' w'=>e'=.returned (.float .f64 ((if s then 9223372036854775808 else 0)+r))∧w'=w:=by
 obtain ⟨nx,o1,i1,n1⟩:=fin_facts x hx h0 hf;obtain ⟨a,b,c,d⟩:=Fl.mk_fields s e m (by omega) h3;obtain ⟨u,hu⟩:∃ u,u=Fl.mk s e m:=⟨_,rfl⟩;rw [←hu] at a b c d HN;have f1:bits .and .i64 ((u:Int) / 4503599627370496) 2047=(e:Int):=by rw [field_and u d];unfold Fl.fld at a;omega
 have r1:=run_bits;have r2:=run_frombits;by_cases hl:k+k2+((e:Int)-1023) < -1075
 ·refine ⟨0,by omega,fun w=>?_⟩;have C1:=Lib.hid (fun w=>copysign0 u w d);rw [c] at C1;rw [Nat.add_zero];generalize (if s then 9223372036854775808 else 0)=B at C1 ⊢;have I1:=Lib.hid i1;have N1:=Lib.hid n1;have H1:=Lib.hid HN;clear nx hu i1 n1 HN;go_enter Tryz.func204,Tryz.ntmps204;go_wp2_with fail;refine (I1.out _).mono ?_;rintro _ w' ⟨rfl,rfl⟩;go_wp2_with fail;refine (N1.out _).mono ?_;rintro _ w' ⟨rfl,rfl⟩;go_wp2_with fail;refine (H1.out _).mono ?_;rintro _ w' ⟨rfl,rfl⟩;go_wp2_with fail;refine (C1.out _).mono ?_;rintro _ w' ⟨rfl,rfl⟩;go_wp2_with fail;go_ret;exact ⟨rfl,rfl⟩
 ·obtain ⟨r,hr,hb⟩:=Fl.mul_tiny s (e+(k+k2)+53).toNat m (by omega) (by omega) h3;refine ⟨r,hb,fun w=>?_⟩;obtain ⟨z,hz⟩:∃ z,z=Fl.mk s (e+(k+k2)+53).toNat m:=⟨_,rfl⟩;rw [←hz] at hr;have f2:bits .andNot .u64 (u:Int) 9218868437227405312=(((if s then 9223372036854775808 else 0)+m:Nat):Int):=by rw [off_field u d];unfold Fl.frc at b;unfold Fl.sg at c;rw [b,←c];simp only [decide_eq_true_eq]
  have f3:bits .or .u64 (((if s then 9223372036854775808 else 0)+m:Nat):Int) ((k+k2+((e:Int)-1023)+53+1023) * 4503599627370496)=(z:Int):=by rw [show (k+k2+((e:Int)-1023)+53+1023)=(((e+(k+k2)+53).toNat:Nat):Int) by omega,or_field s m _ h3 (by omega),hz];rfl
  generalize (if s then 9223372036854775808 else 0)+m=B at f2 f3;generalize (if s then 9223372036854775808 else 0)+r=y at hr ⊢;have fm:∀ w,(binOp .mul 255 (.float .f64 4368491638549381120) (.float .f64 z)).run Tryz.prog w=.ok (.float .f64 y) w:=by intro w;have ho':FloatKind.f64.format.mul 4368491638549381120 z=some y:=hr;simp [binOp,Op.floatArith,ho']
  have I1:=Lib.hid i1;have N1:=Lib.hid n1;have H1:=Lib.hid HN;clear nx hu i1 n1 HN hz hr hb;go_enter Tryz.func204,Tryz.ntmps204;go_wp2_with fail;refine (I1.out _).mono ?_;rintro _ w' ⟨rfl,rfl⟩;go_wp2_with fail;refine (N1.out _).mono ?_;rintro _ w' ⟨rfl,rfl⟩;go_wp2_with fail;refine (H1.out _).mono ?_;rintro _ w' ⟨rfl,rfl⟩;go_wp2_with fail;go_ret;exact ⟨rfl,rfl⟩
theorem Fl.rte_small(y:Nat)(hy:y<18446744073709551616)(h:Fl.rg y<4602678819172646912):Fl.rteF y=if Fl.sg y then 9223372036854775808 else 0:=by
 have hm:=Fl.mk_of y hy;have a:Fl.rg y=Fl.fld y * 4503599627370496+Fl.frc y:=by unfold Fl.rg Fl.fld Fl.frc;omega
 have b:Fl.frc y<4503599627370496:=by unfold Fl.frc;omega
 by_cases h0:Fl.fld y=0
 ·unfold Fl.rteF;rw [Fl.read_eq y hy,if_neg (by omega),if_pos h0];unfold Ieee.Datum.integral
  dsimp only
  rw [Fl.even_cut];have hc:Fl.cut (Fl.frc y <<< (-1074:Int).toNat) (- (-1074:Int)).toNat=0:=by
   have hp:∀ d:Nat,54≤d→2 * Fl.frc y<2 ^ d:=fun d hd=>by have:2 ^ 54≤2 ^ d:=Nat.pow_le_pow_right (by omega) hd;omega
   refine Fl.cut_small _ _ ?_;rw [show (-1074:Int).toNat=0 by omega,Nat.shiftLeft_zero];exact hp _ (by omega)
  rw [hc];unfold Ieee.Format.write
  dsimp only
  unfold Ieee.Format.nearest;rw [if_pos rfl,Fl.word_eq,Nat.add_zero]
 ·generalize Fl.sg y=s at *;generalize Fl.fld y=e at *;generalize Fl.frc y=m at *;rw [hm,Fl.rte_mk s e m (by omega) (by omega) b,if_neg (by omega)];have hc:Fl.cut (4503599627370496+m) (1075-e)=0:=by refine Fl.cut_small _ _ ?_;have:2 ^ 54≤2 ^ (1075-e):=Nat.pow_le_pow_right (by omega) (by omega);omega
  rw [hc];rfl
theorem Fl.rte_inf(s:Bool):Fl.rteF (Fl.mk s 2047 0)=Fl.mk s 2047 0:=by cases s<;>decide +kernel
theorem Fl.log31{c:Nat}(h:c≤2147483648):c.log2≤52:=Nat.le_trans (Fl.log2_le (k:=31) (by omega)) (by omega)
theorem Fl.toint(s:Bool)(c:Nat)(hc:if s then c≤2147483648 else c≤2147483647):floatToIntVal .f64 ((if s then 9223372036854775808 else 0)+Fl.rgN c) .i32=some (if s then -(c:Int) else c):=by
 have hc':c≤2147483648:=by cases s<;>simp at hc<;>omega
 have hl:=Fl.log31 hc';have key:(Ieee.double.read ((if s then 9223372036854775808 else 0)+Fl.rgN c)).toInt .zero=some (if s then -(c:Int) else c):=by
  by_cases h0:c=0
  ·subst h0;cases s<;>decide +kernel
  ·have e1:(if s then 9223372036854775808 else 0)+Fl.rgN c=Fl.mk s (c.log2+1023) (c * 2 ^ (52-c.log2)-4503599627370496):=by rw [←Fl.nearest_nat s c hl,(Fl.nearest_whole s c (by omega) hl).1]
   obtain ⟨b1,b2⟩:=Fl.norm_bounds h0 hl;rw [e1,Fl.read_mk s _ _ (by omega) (by omega) (by omega)];unfold Ieee.Datum.toInt Ieee.Datum.integral
   dsimp only
   unfold Ieee.Toward.cut Ieee.signed
   dsimp only
   rw [show ((c.log2+1023:Nat):Int)-1075 = -((52-c.log2:Nat):Int) by omega,show (-((52-c.log2:Nat):Int)).toNat=0 by omega,show (-(-((52-c.log2:Nat):Int))).toNat=52-c.log2 by omega,Nat.add_sub_cancel' b1];simp only [Nat.shiftLeft_zero];have l52:(c * 2 ^ (52-c.log2)).log2=52:=Fl.log2_eq (by omega) (by omega);rw [l52,Nat.min_eq_left (by omega),Nat.one_shiftLeft,Nat.mul_div_cancel _ (Nat.pow_pos (by omega))];simp
 unfold floatToIntVal;rw [show FloatKind.f64.decode ((if s then 9223372036854775808 else 0)+Fl.rgN c)=Ieee.double.read ((if s then 9223372036854775808 else 0)+Fl.rgN c) from rfl,key]
 dsimp only
 rw [if_pos];cases s
 ·simp only [Bool.false_eq_true,if_false] at hc ⊢;exact ⟨by show (-2147483648:Int)≤_;omega,by show _≤(2147483647:Int);omega⟩
 ·simp only [if_true] at hc ⊢;exact ⟨by show (-2147483648:Int)≤_;omega,by show _≤(2147483647:Int);omega⟩
def QP(x:Nat)(k v m e:Int):Prop:=∀ w,Calls Tryz.prog 197 #[.int .u64 x,.int .i64 k] w fun e' w'=>e'=.returned (.tuple #[.int .i32 v,.int .i64 m,.int .i64 e])∧w'=w
theorem ret3{a b c d e f:Int}(h:a=b)(h2:c=d)(h3:e=f):Ending.returned (.tuple #[.int .i32 a,.int .i64 c,.int .i64 e])=.returned (.tuple #[.int .i32 b,.int .i64 d,.int .i64 f]):=by rw [h,h2,h3]
theorem qp_scale(x:Nat)(k:Int)(h:k < -64∨64<k):QP x k 0 0 2:=by
 intro w;have r2:=run_frombits;have G:=good_any k;rw [decide_eq_false (by omega)] at G;have G':=Lib.hid G;clear G h;go_enter Tryz.func197,Tryz.ntmps197;go_wp2_with fail;refine (G'.out _).mono ?_;rintro _ w' ⟨rfl,rfl⟩;go_wp2_with fail
 go_ret3
 exact ⟨rfl,rfl⟩
theorem qp_nan(x:Nat)(k:Int)(h : -64≤k)(h':k≤64)(hx:x<18446744073709551616)(hn:9218868437227405312<Fl.rg x):QP x k 0 0 10:=by
 intro w;have r2:=run_frombits;have o1:=self_nan hx hn;have G:=good_any k;rw [decide_eq_true (by omega)] at G;have G':=Lib.hid G;clear G h hn;go_enter Tryz.func197,Tryz.ntmps197;go_wp2_with fail;refine (G'.out _).mono ?_;rintro _ w' ⟨rfl,rfl⟩;go_wp2_with fail
 go_ret3
 exact ⟨rfl,rfl⟩
theorem rte_run(y n:Nat)(h:∀ s t,Ieee.double.read y≠.nan s t)(hn:Fl.rteF y=n)(w:World):(callFunc 201 #[.float .f64 y]).run Tryz.prog w=.ok (.value (.float .f64 n)) w:=by rw [run_rte y w h];have:FloatKind.f64.encode ((FloatKind.f64.decode y).integral .even)=n:=hn;rw [this]
theorem qp_high(x y n:Nat)(k:Int)(h : -64≤k)(h':k≤64)(hx:Fl.Num x)(L:∀ w,Calls Tryz.prog 200 #[.float .f64 x,.int .i64 k] w fun e' w'=>e'=.returned (.float .f64 y)∧w'=w)
  (hy:∀ s t,Ieee.double.read y≠.nan s t) (hn:Fl.rteF y=n) (nn:Fl.Num n) (c:4746794007244308480<Fl.rk n):QP x k 2147483647 2 0:=by
 intro w;have r2:=run_frombits;have r3:=rte_run y n hy hn;have o1:=self_eq hx;have G:=good_any k;rw [decide_eq_true (by omega)] at G;have G':=Lib.hid G;have L':=Lib.hid L;have o2:(FloatKind.f64.format.order n 4746794007244308480 == some .gt)=true:=by show (Ieee.double.order _ _ == _)=_;rw [Fl.ord_gt nn (Fl.num_lit (by omega) (by omega)),Fl.rk_pos (x:=4746794007244308480) (by omega),decide_eq_true_eq];exact c
 clear G h hy hn hx nn c L;go_enter Tryz.func197,Tryz.ntmps197;go_wp2_with fail;refine (G'.out _).mono ?_;rintro _ w' ⟨rfl,rfl⟩;go_wp2_with fail;refine (L'.out _).mono ?_;rintro _ w' ⟨rfl,rfl⟩;go_wp2_with fail
 go_ret3
 exact ⟨rfl,rfl⟩
theorem rk_min:Fl.rk 13970166044103278592 = -4746794007248502784:=by decide +kernel
theorem qp_deep(x y n:Nat)(k:Int)(h : -64≤k)(h':k≤64)(hx:Fl.Num x)(L:∀ w,Calls Tryz.prog 200 #[.float .f64 x,.int .i64 k] w fun e' w'=>e'=.returned (.float .f64 y)∧w'=w)
  (hy:∀ s t,Ieee.double.read y≠.nan s t) (hn:Fl.rteF y=n) (nn:Fl.Num n) (c:Fl.rk n < -4746794007248502784):QP x k (-2147483648) 2 0:=by
 intro w;have r2:=run_frombits;have r3:=rte_run y n hy hn;have o1:=self_eq hx;have G:=good_any k;rw [decide_eq_true (by omega)] at G;have G':=Lib.hid G;have L':=Lib.hid L;have o2:(FloatKind.f64.format.order n 4746794007244308480 == some .gt)=false:=by show (Ieee.double.order _ _ == _)=_;rw [Fl.ord_gt nn (Fl.num_lit (by omega) (by omega)),Fl.rk_pos (x:=4746794007244308480) (by omega),decide_eq_false_iff_not];omega
 have o3:(FloatKind.f64.format.order n 13970166044103278592 == some .lt)=true:=by show (Ieee.double.order _ _ == _)=_;rw [Fl.ord_lt nn (Fl.num_lit (by omega) (by omega)),rk_min,decide_eq_true_eq];exact c
 clear G h hy hn hx nn c L;go_enter Tryz.func197,Tryz.ntmps197;go_wp2_with fail;refine (G'.out _).mono ?_;rintro _ w' ⟨rfl,rfl⟩;go_wp2_with fail;refine (L'.out _).mono ?_;rintro _ w' ⟨rfl,rfl⟩;go_wp2_with fail
 go_ret3
 exact ⟨rfl,rfl⟩
def mark1(a b c:Bool):Int:=if a || (b && c) then 1 else 0
theorem qp_mid(x y n:Nat)(k v:Int)(c3 c4 c5 c6 s:Bool)(h : -64≤k)(h':k≤64)(hx:Fl.Num x)(L:∀ w,Calls Tryz.prog 200 #[.float .f64 x,.int .i64 k] w fun e' w'=>e'=.returned (.float .f64 y)∧w'=w)
  (hy:∀ s t,Ieee.double.read y≠.nan s t) (hn:Fl.rteF y=n) (nn:Fl.Num n) (ca:Fl.rk n≤4746794007244308480) (cb : -4746794007248502784≤Fl.rk n)
  (o3:(FloatKind.f64.format.order n y != some .eq)=c3) (o4:(FloatKind.f64.format.order y 0 == some .eq)=c4) (o5:(FloatKind.f64.format.order x 0 != some .eq)=c5) (o6:(FloatKind.f64.format.order n 0 == some .eq)=c6)
  (hs:Fl.sg x=s) (hv:floatToIntVal .f64 n .i32=some v):QP x k v (mark1 c3 c4 c5+if c6 && s then 4 else 0) 0:=by
 intro w;have r2:=run_frombits;have r3:=rte_run y n hy hn;have o1:=self_eq hx;have G:=good_any k;rw [decide_eq_true (by omega)] at G;have G':=Lib.hid G;have L':=Lib.hid L;have p2:(FloatKind.f64.format.order n 4746794007244308480 == some .gt)=false:=by show (Ieee.double.order _ _ == _)=_;rw [Fl.ord_gt nn (Fl.num_lit (by omega) (by omega)),Fl.rk_pos (x:=4746794007244308480) (by omega),decide_eq_false_iff_not];omega
 have p3:(FloatKind.f64.format.order n 13970166044103278592 == some .lt)=false:=by show (Ieee.double.order _ _ == _)=_;rw [Fl.ord_lt nn (Fl.num_lit (by omega) (by omega)),rk_min,decide_eq_false_iff_not];omega
 have S1:∀ w,Calls Tryz.prog 202 #[.float .f64 x] w fun e w'=>e=.returned (.bool s)∧w'=w:=by intro w;have:=signbit_any x w hx.1;rw [show decide (9223372036854775808≤x)=s from hs] at this;exact this
 have S1':=Lib.hid S1;have cv:∀ w,(convert 255 21 (.float .f64 n)).run Tryz.prog w=.ok (.int .i32 v) w:=fun w=>run_convert_float_int w _ _ _ _ _ v (by rw [Tryz.underlying255];rfl) Tryz.underlying21 hv;have b1:bits .or .i64 0 4=4:=by decide +kernel
 have b2:bits .or .i64 1 4=5:=by decide +kernel
 clear G h hy hn hx nn ca cb L hs hv S1;rcases (show (c3=true)∨(c3=false∧c4=false)∨(c3=false∧c4=true∧c5=false)∨(c3=false∧c4=true∧c5=true) by cases c3<;>cases c4<;>cases c5<;>simp) with rfl|⟨rfl,rfl⟩|⟨rfl,rfl,rfl⟩|⟨rfl,rfl,rfl⟩<;>cases c6;all_goals try
  go_enter Tryz.func197,Tryz.ntmps197;go_wp2_with fail;refine (G'.out _).mono ?_;rintro _ w' ⟨rfl,rfl⟩;go_wp2_with fail;refine (L'.out _).mono ?_;rintro _ w' ⟨rfl,rfl⟩;go_wp2_with fail
  go_ret3
  exact ⟨ret3 rfl (by simp [mark1]) rfl,rfl⟩
 all_goals cases s
 all_goals
  go_enter Tryz.func197,Tryz.ntmps197;go_wp2_with fail;refine (G'.out _).mono ?_;rintro _ w' ⟨rfl,rfl⟩;go_wp2_with fail;refine (L'.out _).mono ?_;rintro _ w' ⟨rfl,rfl⟩;go_wp2_with fail;refine (S1'.out _).mono ?_;rintro _ w' ⟨rfl,rfl⟩;go_wp2_with fail
  go_ret3
  exact ⟨ret3 rfl (by simp [mark1]) rfl,rfl⟩
theorem Fl.read_nn(y:Nat)(h:Fl.Num y):∀ s t,Ieee.double.read y≠.nan s t:=by
 intro s t;rw [Fl.read_eq y h.1];have:=h.2;by_cases a:Fl.fld y=2047
 ·rw [if_pos a,if_pos (by unfold Fl.rg Fl.frc Fl.fld at *;omega)];intro h;cases h
 ·rw [if_neg a];split<;>(intro h;cases h)
theorem Fl.num_sign(s:Bool)(r:Nat)(h:r≤9218868437227405312):Fl.Num ((if s then 9223372036854775808 else 0)+r)∧Fl.rg ((if s then 9223372036854775808 else 0)+r)=r∧Fl.sg ((if s then 9223372036854775808 else 0)+r)=s:=by
 unfold Fl.Num Fl.rg Fl.sg;cases s
 ·simp only [Bool.false_eq_true,if_false];exact ⟨⟨by omega,by omega⟩,by omega,decide_eq_false (by omega)⟩
 ·simp only [if_true];exact ⟨⟨by omega,by omega⟩,by omega,decide_eq_true (by omega)⟩
theorem Fl.rk_of(x:Nat):Fl.rk x=if Fl.sg x then -(Fl.rg x:Int) else (Fl.rg x:Int):=rfl
theorem nearG_small(m:Nat)(p:Int)(h0:0<m)(h1:m<9007199254740992)(hp:p≤-60):nearG m p=(0,false):=by unfold nearG Fl.nearF;rw [if_neg (by omega),if_neg (by omega)];have:2 ^ 60≤2 ^ (-p).toNat:=Nat.pow_le_pow_right (by omega) (by omega);rw [Fl.cut_small _ _ (by omega),decide_eq_false];rw [Nat.mod_eq_of_lt (by omega)];omega
theorem nne_eq{x y:Nat}(hx:Fl.Num x)(hy:Fl.Num y):(FloatKind.f64.format.order x y != some .eq) = !decide (Fl.rk x=Fl.rk y):=by show (!(Ieee.double.order x y == some .eq))=_;rw [Fl.ord_eq hx hy]
theorem qp_small(x y:Nat)(k:Int)(h : -64≤k)(h':k≤64)(hx:Fl.Num x)(h0:Fl.rg x≠0)(hy:y<18446744073709551616)(hys:Fl.sg y=Fl.sg x)(hyr:Fl.rg y<4602678819172646912)
  (L:∀ w,Calls Tryz.prog 200 #[.float .f64 x,.int .i64 k] w fun e' w'=>e'=.returned (.float .f64 y)∧w'=w):QP x k 0 (1+if Fl.sg x then 4 else 0) 0:=by
 have ny:Fl.Num y:=⟨hy,by omega⟩;obtain ⟨nn,nr,ns⟩:=Fl.num_sign (Fl.sg y) 0 (by omega);have hn:Fl.rteF y=(if Fl.sg y then 9223372036854775808 else 0)+0:=by rw [Fl.rte_small y hy hyr,Nat.add_zero]
 generalize hnn:(if Fl.sg y=true then 9223372036854775808 else 0)+0=n at *;have rn:Fl.rk n=0:=by rw [rk_zero_iff];exact nr
 have hv:floatToIntVal .f64 n .i32=some 0:=by have:=Fl.toint (Fl.sg y) 0 (by split<;>omega);rw [show Fl.rgN 0=0 from rfl,hnn] at this;rw [this];cases Fl.sg y<;>rfl
 have q:=qp_mid x y n k 0 _ _ _ _ _ h h' hx L (Fl.read_nn y ny) hn nn (by omega) (by omega) rfl rfl rfl rfl rfl hv;have c3:=nne_eq nn ny;have c4:=zero_eq ny;have c5:(FloatKind.f64.format.order x 0 != some .eq)=true:=by show (!(FloatKind.f64.format.order x 0 == some .eq))=true;rw [zero_eq hx,decide_eq_false h0];rfl
 have c6:=zero_eq nn;rw [c3,c4,c5,c6] at q;rw [decide_eq_true nr] at q;have e1:mark1 (!decide (Fl.rk n=Fl.rk y)) (decide (Fl.rg y=0)) true=1:=by
  rw [rn];by_cases g:Fl.rg y=0
  ·rw [decide_eq_true g];unfold mark1;simp
  ·rw [decide_eq_false (show ¬ (0:Int)=Fl.rk y from fun h=>g ((rk_zero_iff y).1 h.symm))];rfl
 rw [e1,Bool.true_and] at q;exact q
theorem limV_big(s:Bool)(N:Nat)(ex:Bool)(h:2147483648<N):limV s N=(if s then -2147483648 else 2147483647)∧limM s N ex=2:=by
 unfold limV limM;cases s
 ·simp only [Bool.false_eq_true,if_false];rw [if_pos (by omega),if_pos (by omega)];exact ⟨rfl,rfl⟩
 ·simp only [if_true];rw [if_pos (by omega),if_pos (by omega)];exact ⟨rfl,rfl⟩
theorem qp_clip(x y n:Nat)(k:Int)(s:Bool)(h : -64≤k)(h':k≤64)(hx:Fl.Num x)(L:∀ w,Calls Tryz.prog 200 #[.float .f64 x,.int .i64 k] w fun e' w'=>e'=.returned (.float .f64 y)∧w'=w)
  (hy:Fl.Num y) (hn:Fl.rteF y=n) (nn:Fl.Num n) (hs:Fl.sg n=s) (c:if s then 4746794007248502784<Fl.rg n else 4746794007244308480<Fl.rg n):QP x k (if s then -2147483648 else 2147483647) 2 0:=by
 cases s
 ·simp only [Bool.false_eq_true,if_false] at c ⊢;refine qp_high x y n k h h' hx L (Fl.read_nn y hy) hn nn ?_;rw [Fl.rk_of,hs];simp only [Bool.false_eq_true,if_false];omega
 ·simp only [if_true] at c ⊢;refine qp_deep x y n k h h' hx L (Fl.read_nn y hy) hn nn ?_;rw [Fl.rk_of,hs];simp only [if_true];omega
theorem qp_norm(s:Bool)(e m:Nat)(k:Int)(h : -64≤k)(h':k≤64)(h1:1≤e)(h2:e≤2046)(h3:m<4503599627370496)(g1:1≤e+k)(g2:e+k≤2046) :
  QP (Fl.mk s e m) k (limV s (nearG (4503599627370496+m) ((e:Int)-1075+k)).1) (limM s (nearG (4503599627370496+m) ((e:Int)-1075+k)).1 (nearG (4503599627370496+m) ((e:Int)-1075+k)).2) 0:=by
 have L:=fun w=>Ldexp_norm s e m k w h1 h2 h3 h h' g1 g2;obtain ⟨xa,xb,xc,xd⟩:=Fl.mk_fields s e m (by omega) h3;have xr:=Fl.mk_rg s e m (by omega) h3;have nx:Fl.Num (Fl.mk s e m):=⟨xd,by rw [xr];omega⟩;obtain ⟨F,hF⟩:∃ F:Nat,F=(e+k).toNat:=⟨_,rfl⟩;rw [←hF] at L;rw [show (e:Int)-1075+k=(F:Int)-1075 by omega];obtain ⟨ya,yb,yc,yd⟩:=Fl.mk_fields s F m (by omega) h3;have yr:=Fl.mk_rg s F m (by omega) h3;have ny:Fl.Num (Fl.mk s F m):=⟨yd,by rw [yr];omega⟩;have hrte:=Fl.rte_mk s F m (by omega) (by omega) h3;unfold nearG Fl.nearF;rw [if_neg (by omega)];by_cases hb:1075≤F
 ·rw [if_pos hb] at hrte;rw [if_pos (by omega)];have hbig:4503599627370496≤(4503599627370496+m) * 2 ^ ((F:Int)-1075).toNat:=Nat.le_trans (by omega) (Nat.le_mul_of_pos_right _ (Nat.pow_pos (by omega)));obtain ⟨v1,v2⟩:=limV_big s _ true (show 2147483648<(4503599627370496+m) * 2 ^ ((F:Int)-1075).toNat by omega);rw [v1,v2];exact qp_clip _ _ _ k s h h' nx L ny hrte ny yc (by rw [yr];split<;>omega)
 ·rw [if_neg hb] at hrte;rw [if_neg (by omega),show (-((F:Int)-1075)).toNat=1075-F by omega];have hsame:=Fl.rte_same F m (by omega) (by omega) h3;have hlog:=Fl.cut_log (4503599627370496+m) (1075-F) (by omega) (by omega);generalize Fl.cut (4503599627370496+m) (1075-F)=c at *;obtain ⟨l1,l2⟩:=Fl.rgN_le hlog;obtain ⟨nn,nr,ns⟩:=Fl.num_sign s (Fl.rgN c) (by omega);generalize hnn:(if s=true then 9223372036854775808 else 0)+Fl.rgN c=n at *;have t1:=Fl.rgN_lt_iff (a:=2147483647) (b:=c) (Fl.log31 (by omega)) hlog;have t2:=Fl.rgN_lt_iff (a:=2147483648) (b:=c) (Fl.log31 (by omega)) hlog;rw [Fl.rgN_max] at t1;rw [Fl.rgN_min] at t2;by_cases hc:if s then 2147483648<c else 2147483647<c
  ·have v:limV s c=(if s then -2147483648 else 2147483647)∧limM s c (decide ((4503599627370496+m) % 2 ^ (1075-F)=0))=2:=by
    unfold limV limM;cases s
    ·simp only [Bool.false_eq_true,if_false] at hc ⊢;rw [if_pos hc,if_pos hc];exact ⟨rfl,rfl⟩
    ·simp only [if_true] at hc ⊢;rw [if_pos hc,if_pos hc];exact ⟨rfl,rfl⟩
   rw [v.1,v.2];refine qp_clip _ _ _ k s h h' nx L ny hrte nn ns ?_;rw [nr];cases s
   ·simp only [Bool.false_eq_true,if_false] at hc ⊢;exact t1.2 hc
   ·simp only [if_true] at hc ⊢;exact t2.2 hc
  ·have hc':if s then c≤2147483648 else c≤2147483647:=by
    cases s
    ·simp only [Bool.false_eq_true,if_false] at hc ⊢;omega
    ·simp only [if_true] at hc ⊢;omega
   have hv:=Fl.toint s c hc';rw [hnn] at hv;have rkn:Fl.rk n=if s then -(Fl.rgN c:Int) else Fl.rgN c:=by rw [Fl.rk_of,ns,nr]
   have q:=qp_mid (Fl.mk s e m) (Fl.mk s F m) n k _ _ _ _ _ s h h' nx L (Fl.read_nn _ ny) hrte nn (by
    rw [rkn];cases s
    ·simp only [Bool.false_eq_true,if_false] at hc ⊢;have:=fun x=>hc (t1.1 x);omega
    ·simp only [if_true];omega) (by
    rw [rkn];cases s
    ·simp only [Bool.false_eq_true,if_false];omega
    ·simp only [if_true] at hc ⊢;have:=fun x=>hc (t2.1 x);omega) rfl rfl rfl rfl xc hv
   rw [nne_eq nn ny,zero_eq ny,zero_eq nn,nr,yr] at q;rw [show decide (F * 4503599627370496+m=0)=false from decide_eq_false (by omega)] at q;have rky:Fl.rk (Fl.mk s F m)=if s then -((F * 4503599627370496+m:Nat):Int) else ((F * 4503599627370496+m:Nat):Int):=by rw [Fl.rk_of,yc,yr]
   have hex:decide (Fl.rk n=Fl.rk (Fl.mk s F m))=decide ((4503599627370496+m) % 2 ^ (1075-F)=0):=by
    rw [decide_eq_decide,←hsame,rkn,rky];cases s
    ·simp only [Bool.false_eq_true,if_false];omega
    ·simp only [if_true];omega
   rw [hex] at q;have hz:decide (Fl.rgN c=0)=decide (c=0):=by
    rw [decide_eq_decide];constructor
    ·intro hh;by_cases g:c=0
     ·exact g
     ·have:=Fl.rgN_lt (a:=0) (b:=c) (by decide) hlog (by omega);omega
    ·intro hh;subst hh;rfl
   rw [hz] at q;generalize decide ((4503599627370496+m) % 2 ^ (1075-F)=0)=ex at q ⊢;have v1:limV s c=if s then -(c:Int) else c:=by
    unfold limV;cases s
    ·simp only [Bool.false_eq_true,if_false] at hc ⊢;rw [if_neg hc]
    ·simp only [if_true] at hc ⊢;rw [if_neg hc]
   have v2:limM s c ex=mark1 (!ex) false (FloatKind.f64.format.order (Fl.mk s e m) 0 != some .eq)+if decide (c=0) && s then 4 else 0:=by
    unfold limM mark1;cases s
    ·simp only [Bool.false_eq_true,if_false] at hc ⊢;rw [if_neg hc];cases ex<;>simp
    ·simp only [if_true] at hc ⊢;rw [if_neg hc];by_cases g:c=0<;>cases ex<;>simp [g]
   rw [v1,v2];exact q
theorem ldL{x y:Nat}{k:Int}(h:∀ w,Calls Tryz.prog 204 #[.float .f64 x,.int .i64 k] w fun e' w'=>e'=.returned (.float .f64 y)∧w'=w) :
  ∀ w,Calls Tryz.prog 200 #[.float .f64 x,.int .i64 k] w fun e' w'=>e'=.returned (.float .f64 y)∧w'=w:=fun w=>Ldexp_of x y k w (h w)
theorem quant_any(x:Nat)(k:Int)(hx:x<18446744073709551616):QP x k (quantG x k).1 (quantG x k).2.1 (quantG x k).2.2:=by
 unfold quantG;by_cases hk:k < -64∨64<k
 ·rw [if_pos hk];exact qp_scale x k hk
 ·rw [if_neg hk];have k1 : -64≤k:=by omega
  have k2:k≤64:=by omega
  by_cases hn:9218868437227405312<Fl.rg x
  ·rw [if_pos hn];exact qp_nan x k k1 k2 hx hn
  ·rw [if_neg hn];have nx:Fl.Num x:=⟨hx,by omega⟩;have hof:=Fl.mk_of x hx;have ra:Fl.rg x=Fl.fld x * 4503599627370496+Fl.frc x:=by unfold Fl.rg Fl.fld Fl.frc;omega
   have rb:Fl.frc x<4503599627370496:=by unfold Fl.frc;omega
   by_cases hi:Fl.rg x=9218868437227405312
   ·rw [if_pos hi];have hof':x=Fl.mk (Fl.sg x) 2047 0:=by rw [show Fl.fld x=2047 by omega,show Fl.frc x=0 by omega] at hof;exact hof
    have hr:Fl.rteF x=x:=by have:=Fl.rte_inf (Fl.sg x);rw [←hof'] at this;exact this
    exact qp_clip x x x k _ k1 k2 nx (ldL fun w=>ldexp_inf x k w nx hi) nx hr nx rfl (by rw [hi];split<;>omega)
   ·rw [if_neg hi];by_cases hz:Fl.rg x=0
    ·have hM:Fl.mM x=0:=by unfold Fl.mM;rw [if_pos (by omega)];omega
     rw [hM];have hg:nearG 0 ((Fl.mE x:Int)-1075+k)=(0,true):=by unfold nearG;rw [if_pos rfl]
     rw [hg];have hr:Fl.rteF x=x:=by
      rw [Fl.rte_small x hx (by omega)];conv=>rhs;rw [hof,show Fl.fld x=0 by omega,show Fl.frc x=0 by omega]
      unfold Fl.mk;simp
     have hv:floatToIntVal .f64 x .i32=some 0:=by
      have:=Fl.toint (Fl.sg x) 0 (by split<;>omega);have e1:(if Fl.sg x=true then 9223372036854775808 else 0)+Fl.rgN 0=x:=by
       conv=>rhs;rw [hof,show Fl.fld x=0 by omega,show Fl.frc x=0 by omega]
       unfold Fl.mk;simp [Fl.rgN]
      rw [e1] at this;rw [this];cases Fl.sg x<;>rfl
     have r0:Fl.rk x=0:=(rk_zero_iff x).2 hz;have q:=qp_mid x x x k 0 _ _ _ _ _ k1 k2 nx (ldL fun w=>ldexp_zero x k w nx hz) (Fl.read_nn x nx) hr nx (by omega) (by omega) rfl rfl rfl rfl rfl hv;have c5:(FloatKind.f64.format.order x 0 != some .eq)=false:=by show (!(FloatKind.f64.format.order x 0 == some .eq))=false;rw [zero_eq nx,decide_eq_true hz];rfl
     rw [self_eq nx,zero_eq nx,c5,decide_eq_true hz,Bool.true_and] at q;have v1:limV (Fl.sg x) 0=0:=by cases Fl.sg x<;>rfl
     have v2:limM (Fl.sg x) 0 true=mark1 false true false+if Fl.sg x then 4 else 0:=by cases Fl.sg x<;>rfl
     show QP x k (limV _ _) (limM _ _ _) 0;rw [v1,v2];exact q
    ·obtain ⟨m1,m2,m3,m4,m5,m6⟩:=Fl.rung_eq x;have m0:0<Fl.mM x:=by
      rcases Nat.lt_or_ge 1 (Fl.mE x) with g|g
      ·have:=m4 g;omega
      ·omega
     have hfin:Fl.rg x<9218868437227405312:=(by omega);have lim0:limV (Fl.sg x) 0=0∧limM (Fl.sg x) 0 false=1+if Fl.sg x then 4 else 0:=by cases Fl.sg x<;>exact ⟨rfl,rfl⟩
     by_cases hf:Fl.fld x=0
     ·have hE:Fl.mE x=1:=by unfold Fl.mE;rw [if_pos hf]
      rw [nearG_small (Fl.mM x) _ m0 m2 (by omega)];show QP x k (limV _ _) (limM _ _ _) 0;rw [lim0.1,lim0.2];rw [hf] at hof;have f0:0<Fl.frc x:=(by omega);obtain ⟨_,n2,n3⟩:=Fl.mul_sub (Fl.sg x) (Fl.frc x) f0 rb;have HN:=fun w=>normalize_sub (Fl.sg x) (Fl.frc x) w f0 rb;rw [←hof] at HN;generalize Fl.frc x * 2 ^ (52-(Fl.frc x).log2)-4503599627370496=mm at n2 HN;generalize (Fl.frc x).log2=l at n3 HN;by_cases g:l+1+(k + -52)≤0
      ·obtain ⟨r,hr,HL⟩:=ldexp_low x (Fl.sg x) (l+1) mm k (-52) hx hz hfin (by omega) (by omega) n2 k1 k2 (by omega) (by omega) (by omega) HN;obtain ⟨a1,a2,a3⟩:=Fl.num_sign (Fl.sg x) r (by omega);exact qp_small x _ k k1 k2 nx hz a1.1 a3 (by rw [a2];omega) (ldL HL)
      ·have HL:=ldexp_mid x (Fl.sg x) (l+1) mm k (-52) hx hz hfin (by omega) (by omega) n2 k1 k2 (by omega) (by omega) (by omega) (by omega) HN;obtain ⟨b1,b2,b3,b4⟩:=Fl.mk_fields (Fl.sg x) (((l+1:Nat):Int)+(k + -52)).toNat mm (by omega) n2;exact qp_small x _ k k1 k2 nx hz b4 b3 (by rw [Fl.mk_rg _ _ _ (by omega) n2];omega) (ldL HL)
     ·have hE:Fl.mE x=Fl.fld x:=by unfold Fl.mE;rw [if_neg hf]
      have hM:Fl.mM x=4503599627370496+Fl.frc x:=by unfold Fl.mM;rw [if_neg hf]
      have hl:Fl.fld x≤2046:=(by omega);by_cases g:Fl.fld x+k≤0
      ·rw [nearG_small (Fl.mM x) _ m0 m2 (by omega)];show QP x k (limV _ _) (limM _ _ _) 0;rw [lim0.1,lim0.2];have HN:∀ w,Calls Tryz.prog 208 #[.float .f64 x] w fun e' w'=>e'=.returned (.tuple #[.float .f64 (Fl.mk (Fl.sg x) (Fl.fld x) (Fl.frc x)),.int .i64 0])∧w'=w:=by intro w;rw [←hof];refine normalize_big x w hx ?_;show (Ieee.double.order _ _ == _)=_;rw [Fl.ord_lt (num_abs nx) (Fl.num_lit (by omega) (by omega)),rk_abs,Fl.rk_pos (by omega),decide_eq_false_iff_not];omega
       obtain ⟨r,hr,HL⟩:=ldexp_low x (Fl.sg x) (Fl.fld x) (Fl.frc x) k 0 hx hz hfin (by omega) (by omega) rb k1 k2 (by omega) (by omega) (by omega) HN;obtain ⟨a1,a2,a3⟩:=Fl.num_sign (Fl.sg x) r (by omega);exact qp_small x _ k k1 k2 nx hz a1.1 a3 (by rw [a2];omega) (ldL HL)
      ·rw [hE,hM];by_cases gg:Fl.fld x+k≤2046
       ·have q:=qp_norm (Fl.sg x) (Fl.fld x) (Fl.frc x) k k1 k2 (by omega) hl rb (by omega) gg;rw [←hof] at q;exact q
       ·have hG:nearG (4503599627370496+Fl.frc x) ((Fl.fld x:Int)-1075+k)=((4503599627370496+Fl.frc x) * 2 ^ ((Fl.fld x:Int)-1075+k).toNat,true):=by unfold nearG Fl.nearF;rw [if_neg (by omega),if_pos (by omega)]
        rw [hG];have hbig:4503599627370496≤(4503599627370496+Fl.frc x) * 2 ^ ((Fl.fld x:Int)-1075+k).toNat:=Nat.le_trans (by omega) (Nat.le_mul_of_pos_right _ (Nat.pow_pos (by omega)));obtain ⟨v1,v2⟩:=limV_big (Fl.sg x) _ true (show 2147483648<(4503599627370496+Fl.frc x) * 2 ^ ((Fl.fld x:Int)-1075+k).toNat by omega);show QP x k (limV _ _) (limM _ _ _) 0;rw [v1,v2];have HL:=fun w=>ldexp_over (Fl.sg x) (Fl.fld x) (Fl.frc x) k w (by omega) hl rb k1 k2 (by omega);rw [←hof] at HL;have hy:=Fl.mk_fields (Fl.sg x) 2047 0 (by omega) (by omega);have yr:=Fl.mk_rg (Fl.sg x) 2047 0 (by omega) (by omega);have ny:Fl.Num (Fl.mk (Fl.sg x) 2047 0):=⟨hy.2.2.2,by rw [yr];omega⟩;exact qp_clip x _ _ k (Fl.sg x) k1 k2 nx (ldL HL) ny (Fl.rte_inf _) ny hy.2.2.1 (by rw [yr];split<;>omega)
end Go.Proofs.YtcgmgdjeamidlaaGreat
