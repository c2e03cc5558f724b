/- Texts of one proof, joined. -/
import Derived.Laws.BitsAllLaws
import Derived.WalkKit
namespace Go.Proofs.YtcgmgdjeamidlaaGreat
set_option maxRecDepth 100000
set_option maxHeartbeats 16000000
theorem and_top(n:Nat):(n &&& 2 ^ 63)=(n / 2 ^ 63 % 2) * 2 ^ 63:=by
 have m1:(n &&& 2 ^ 63) % 2 ^ 63=0:=by rw [Nat.and_mod_two_pow,Nat.mod_self,Nat.and_zero]
 have d1:(n &&& 2 ^ 63) / 2 ^ 63=(n / 2 ^ 63) &&& 1:=by rw [Nat.and_div_two_pow,Nat.div_self (by omega)]
 rw [Nat.and_one_is_mod] at d1;omega
theorem hiand_lo(a:Int)(h0:0≤a)(h1:a<9223372036854775808):bits .and .u64 a 9223372036854775808=0:=by obtain ⟨n,rfl⟩:=Int.eq_ofNat_of_zero_le h0;rw [show (9223372036854775808:Int)=((9223372036854775808:Nat):Int) from rfl,u64_and_nat n _ (by omega) (by omega),show (9223372036854775808:Nat)=2 ^ 63 from rfl,and_top,show n / 2 ^ 63 % 2=0 by omega]<;>rfl
theorem hiand_hi(a:Int)(h0:9223372036854775808≤a)(h1:a<18446744073709551616):bits .and .u64 a 9223372036854775808=9223372036854775808:=by obtain ⟨n,rfl⟩:=Int.eq_ofNat_of_zero_le (show 0≤a by omega);rw [show (9223372036854775808:Int)=((9223372036854775808:Nat):Int) from rfl,u64_and_nat n _ (by omega) (by omega),show (9223372036854775808:Nat)=2 ^ 63 from rfl,and_top,show n / 2 ^ 63 % 2=1 by omega]<;>rfl
theorem offtop(a:Int)(h0:0≤a)(h1:a<18446744073709551616):bits .andNot .u64 a 9223372036854775808=a % 9223372036854775808:=by obtain ⟨n,rfl⟩:=Int.eq_ofNat_of_zero_le h0;rw [show (9223372036854775808:Int)=((9223372036854775808:Nat):Int) from rfl,u64_andNot_nat n _ (by omega) (by omega),show (18446744073709551615-9223372036854775808:Nat)=2 ^ 63-1 from rfl,Nat.and_two_pow_sub_one_eq_mod];omega
theorem i64_and_nat(a b:Nat)(ha:a<9223372036854775808)(hb:b<9223372036854775808):bits .and .i64 (a:Int) (b:Int)=((a &&& b:Nat):Int):=by have hx:a &&& b<2 ^ 63:=Nat.and_lt_two_pow _ (by omega);show IntKind.i64.wrap ((BitVec.ofInt 64 (a:Int) &&& BitVec.ofInt 64 (b:Int)).toNat:Int)=_;rw [BitVec.toNat_and,BitVec.ofInt_natCast,BitVec.ofInt_natCast,BitVec.toNat_ofNat,BitVec.toNat_ofNat,Nat.mod_eq_of_lt (by omega),Nat.mod_eq_of_lt (by omega)];simp only [IntKind.wrap,IntKind.bits,IntKind.signed];simp;split<;>omega
theorem field_and(x:Nat)(hx:x<18446744073709551616):bits .and .i64 ((x:Int) / 4503599627370496) 2047=((x / 4503599627370496 % 2048:Nat):Int):=by
 have e:(x:Int) / 4503599627370496=((x / 4503599627370496:Nat):Int):=by omega
 rw [e,show (2047:Int)=((2047:Nat):Int) from rfl,i64_and_nat _ _ (by omega) (by omega),show (2047:Nat)=2 ^ 11-1 from rfl,Nat.and_two_pow_sub_one_eq_mod]
theorem off_field(x:Nat)(hx:x<18446744073709551616):bits .andNot .u64 (x:Int) 9218868437227405312=(((if 9223372036854775808≤x then 9223372036854775808 else 0)+x % 4503599627370496:Nat):Int):=by
 rw [show (9218868437227405312:Int)=((9218868437227405312:Nat):Int) from rfl,u64_andNot_nat x _ hx (by omega)];congr 1;have m1:(x &&& (18446744073709551615-9218868437227405312)) % 2 ^ 63=x % 4503599627370496:=by rw [Nat.and_mod_two_pow,show (18446744073709551615-9218868437227405312) % 2 ^ 63=2 ^ 52-1 from rfl,Nat.and_two_pow_sub_one_eq_mod];omega
 have d1:(x &&& (18446744073709551615-9218868437227405312)) / 2 ^ 63=x / 2 ^ 63 % 2:=by rw [Nat.and_div_two_pow,show (18446744073709551615-9218868437227405312) / 2 ^ 63=1 from rfl,Nat.and_one_is_mod]
 generalize (x &&& (18446744073709551615-9218868437227405312))=z at m1 d1;split<;>omega
theorem or_field(s:Bool)(m e:Nat)(hm:m<4503599627370496)(he:e<2048):bits .or .u64 (((if s then 9223372036854775808 else 0)+m:Nat):Int) ((e:Int) * 4503599627370496)=(((if s then 9223372036854775808 else 0)+e * 4503599627370496+m:Nat):Int):=by
 rw [show ((e:Int) * 4503599627370496)=((e * 4503599627370496:Nat):Int) by omega,u64_or_nat _ _ (by split<;>omega) (by omega)];congr 1;generalize hA:(if s=true then 9223372036854775808 else 0)+m=A;have hA0:A % 2 ^ 52=m:=by subst hA;split<;>omega
 have hA1:A / 2 ^ 52=if s then 2048 else 0:=by subst hA;split<;>omega
 have m1:(A ||| e * 4503599627370496) % 2 ^ 52=m:=by rw [Nat.or_mod_two_pow,hA0,show e * 4503599627370496 % 2 ^ 52=0 by omega,Nat.or_zero]
 have d1:(A ||| e * 4503599627370496) / 2 ^ 52=(if s then 2048 else 0)+e:=by
  rw [Nat.or_div_two_pow,hA1,show e * 4503599627370496 / 2 ^ 52=e by omega];cases s
  ·simp
  ·simp only [if_true];have:=Nat.two_pow_add_eq_or_of_lt (i:=11) (b:=e) he 1;simpa using this.symm
 generalize A ||| e * 4503599627370496=z at m1 d1;cases s<;>simp at d1⊢<;> omega
end Go.Proofs.YtcgmgdjeamidlaaGreat
