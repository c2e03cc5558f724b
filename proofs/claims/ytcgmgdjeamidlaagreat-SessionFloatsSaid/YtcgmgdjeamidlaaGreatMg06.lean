/- Texts of one proof, joined. -/
import Derived.Test.YtcgmgdjeamidlaaGreatMg05
import Derived.Laws.CopyOwn
namespace Go.Proofs.YtcgmgdjeamidlaaGreat
set_option maxRecDepth 100000
set_option maxHeartbeats 16000000
open Go.RowKit Go.ChangeShapes Go.WideShapes Go.ChangeAt Go.Proofs.Tryz
set_option linter.unusedVariables false
set_option linter.unusedSimpArgs false
/-! ### numbers as bytes -/
theorem madeCells_one(z:Value)(n:Nat):madeCells #[z] n=Array.replicate n z:=by refine Array.ext (by simp [size_madeCells]) fun i h1 h2=>?_;simp [madeCells,Nat.mod_one]
theorem infoBy:(prog.info? 5).map (fun i=>(i.zero,i.size,i.bytes))=some (some (.int .u8 0),1,1):=by kernel_rfl
def leAt(n:Int)(i:Nat):Int:=n / 2 ^ (8 * i) % 256
def leB(n:Int)(k:Nat):List Int:=(List.range k).map (leAt n)
theorem leB_succ(n:Int)(k:Nat):leB n (k+1)=leB n k++[leAt n k]:=by simp [leB,List.range_succ]
theorem leB_len(n:Int)(k:Nat):(leB n k).length=k:=by simp [leB]
theorem leB_by(n:Int)(k:Nat):IsBy (leB n k):=fun x hx=>by obtain ⟨i,_,rfl⟩:=List.mem_map.1 hx;unfold leAt;omega
theorem wpList_make0{P:Program}{w:World}{ops:Array Oper}{rest:List Oper}{o:Oper}{a:Act}{Q:Exit→Act→World→Prop}(hg:o.guard=none)(l c:Operand)(t:TypeId)(hop:o.op=Op.makeSlice t l c)(e:TypeId)(i:TypeInfo)(z:Value)(h1:P.underlying t=some (.slice e))(h2:P.info? e=some i)(h3:i.zero=some z)(h4:i.size=1)(hz:z.cells=#[z])
  (kl kc:IntKind) (n:Nat) (hl:a.eval l=.int kl 0) (hc:a.eval c=.int kc (n:Int)) (b2:i.bytes * n≤281474976710656) (b3:n≤maxLen)
  (hK:∀ w',w'.ownsRow w.heap.size e 1 (.slice (some ⟨w.heap.size,0,none⟩) 0 n) 0 []→Only [] w w'→w'.heap.size=w.heap.size+1→wpList P ops Q rest (a.put o.dst (.slice (some ⟨w.heap.size,0,none⟩) 0 n)) w'):wpList P ops Q (o :: rest) a w:=by
 refine wpList_plain hg fun K hK'=>?_;have hb':(i.bytes:Int) * (n:Int)≤281474976710656:=by
  have h:((i.bytes * n:Nat):Int)≤281474976710656:=by omega
  rwa [Int.natCast_mul] at h
 have hr:=run_make (P:=P) w t e i z h1 h2 h3 kl kc 0 n (Int.le_refl _) (by omega) hb' (by unfold maxLen at b3;omega);simp only [Int.toNat_natCast,h4,Nat.mul_one,hz,madeCells_one,Int.toNat_zero] at hr;unfold Oper.wp;simp [execOp,hop,hl,hc,hr,Result.andThen];refine hK' _ _ (hK _ ⟨rfl,.inr ⟨w.heap.size,n,Array.replicate n z,rfl,Θ _,Φ _ _ _,Nat.zero_le _,b3,by simp,by simp⟩⟩ ((Ω _ _).alloc _) (by simp))
end Go.Proofs.YtcgmgdjeamidlaaGreat
namespace Go.Proofs.YtcgmgdjeamidlaaGreat
set_option maxRecDepth 100000
set_option maxHeartbeats 16000000
set_option linter.unusedVariables false
set_option linter.unusedSimpArgs false
def leV:List Int→Int
 | []=>0
 | c :: r=>c+256 * leV r
theorem leAt_succ(n:Int)(i:Nat):leAt n (i+1)=leAt (n / 256) i:=by unfold leAt;rw [show (2:Int) ^ (8 * (i+1))=256 * 2 ^ (8 * i) by rw [Nat.mul_succ,Int.pow_add];rw [Int.mul_comm];rfl,Int.ediv_ediv_of_nonneg (by omega)]
theorem leB_cons(n:Int)(k:Nat):leB n (k+1)=n % 256 :: leB (n / 256) k:=by
 unfold leB;rw [List.range_succ_eq_map,List.map_cons,List.map_map];congr 1
 ·simp [leAt]
 ·exact List.map_congr_left fun i _=>leAt_succ n i
theorem leV_leB(k:Nat):∀ (n:Int),0≤n→n<256 ^ k→leV (leB n k)=n:=by
 induction k with
 | zero=>intro n h0 h1;simp at h1;simp [leB,leV];omega
 | succ k ih=>
  intro n h0 h1;rw [leB_cons,leV,ih (n / 256) (by omega) (by rw [Int.pow_succ] at h1;omega)];omega
theorem leV_lt:∀ (xs:List Int),IsBy xs→0≤leV xs∧leV xs<256 ^ xs.length
 | [],_=>by simp [leV]
 | c :: r,h=>by have h1:=h c (by simp);have h2:=leV_lt r fun x hx=>h x (List.mem_cons_of_mem _ hx);rw [leV,List.length_cons,Int.pow_succ];omega
theorem leV_snoc(xs:List Int)(c:Int):leV (xs++[c])=leV xs+c * 256 ^ xs.length:=by
 induction xs with
 | nil=>simp [leV]
 | cons x r ih=>
  rw [List.cons_append,leV,ih,leV,List.length_cons,Int.pow_succ,Int.mul_add,←Int.add_assoc];congr 1;rw [Int.mul_left_comm,Int.mul_comm (256 ^ _) 256]
theorem IsBy.append{xs ys:List Int}(h:IsBy xs)(k:IsBy ys):IsBy (xs++ys):=fun x hx=>by
 rcases List.mem_append.1 hx with hx|hx
 ·exact h x hx
 ·exact k x hx
theorem IsBy.drop{xs:List Int}(h:IsBy xs)(n:Nat):IsBy (xs.drop n):=fun x hx=>h x (List.mem_of_mem_drop hx)
theorem IsBy.take{xs:List Int}(h:IsBy xs)(n:Nat):IsBy (xs.take n):=fun x hx=>h x (List.mem_of_mem_take hx)
theorem IsBy.nil:IsBy []:=fun x hx=>by simp at hx
theorem IsBy.one{x:Int}(h0:0≤x)(h1:x<256):IsBy [x]:=fun y hy=>by simp at hy;omega
/-! ### counts -/
def uvB(n:Nat):List Int:=if h:n<128 then [(n:Int)] else ((n % 128+128:Nat):Int) :: uvB (n / 128)
termination_by n
decreasing_by omega
theorem uvB_small{n:Nat}(h:n<128):uvB n=[(n:Int)]:=by rw [uvB,dif_pos h]
theorem uvB_big{n:Nat}(h:¬ n<128):uvB n=((n % 128+128:Nat):Int) :: uvB (n / 128):=by rw [uvB,dif_neg h]
theorem uvB_by(n:Nat):IsBy (uvB n):=by
 induction n using Nat.strongRecOn with
 | ind n ih=>
  by_cases h:n<128
  ·rw [uvB_small h];exact IsBy.one (by omega) (by omega)
  ·rw [uvB_big h];intro x hx;rcases List.mem_cons.1 hx with rfl|hx
   ·omega
   ·exact ih (n / 128) (by omega) x hx
theorem uvB_pos(n:Nat):0<(uvB n).length:=by
 by_cases h:n<128
 ·rw [uvB_small h];simp
 ·rw [uvB_big h];simp
theorem uvB_len(k:Nat):∀ n:Nat,n<128 ^ k→0<k→(uvB n).length≤k:=by
 induction k with
 | zero=>intro n _ h;omega
 | succ k ih=>
  intro n h _;by_cases h1:n<128
  ·rw [uvB_small h1];simp
  ·rw [uvB_big h1,List.length_cons];rw [Nat.pow_succ] at h;have h2:n / 128<128 ^ k:=(by omega);have hk:0<k:=by
    rcases Nat.eq_zero_or_pos k with rfl|hk
    ·simp at h2;omega
    ·exact hk
   have:=ih (n / 128) h2 hk;omega
def cnt:List Int→Nat→Int→Int×Int×Bool
 | [],_,_=>(0,0,false)
 | c :: r,i,acc=>if (i=9∧1<c)∨9<i then (0,0,false) else if c<128 then (acc+c % 128 * 128 ^ i,(i:Int)+1,decide (i=0∨c≠0)) else cnt r (i+1) (acc+c % 128 * 128 ^ i)
theorem cnt_uvB(rest:List Int)(n:Nat):∀ (i:Nat) (acc:Int),n * 128 ^ i<18446744073709551616→(i=0∨0<n)→cnt (uvB n++rest) i acc=(acc+(n:Int) * 128 ^ i,(i:Int)+((uvB n).length:Int),true):=by
 induction n using Nat.strongRecOn with
 | ind n ih=>
  intro i acc hlt hz;have h9:¬ 9<i:=by
   intro h9;rcases hz with rfl|hz
   ·omega
   ·have:(128:Nat) ^ 10≤128 ^ i:=Nat.pow_le_pow_right (by omega) h9;have h3:=Nat.le_mul_of_pos_left (128 ^ i) hz;have h4:(128:Nat) ^ 10=1180591620717411303424:=(by decide);omega
  by_cases h:n<128
  ·rw [uvB_small h];simp only [List.cons_append,List.nil_append,cnt];rw [if_neg,if_pos (by omega)]
   ·rw [Int.emod_eq_of_lt (by omega) (by omega)];have:decide (i=0∨(n:Int)≠0)=true:=Γ (by omega);rw [this];simp
   ·rintro (⟨rfl,h1⟩|h1)
    ·have h4:(128:Nat) ^ 9=9223372036854775808:=(by decide);rw [h4] at hlt;omega
    ·exact h9 h1
  ·rw [uvB_big h];simp only [List.cons_append,cnt];rw [if_neg,if_neg (by omega)]
   ·have hd:n / 128 * 128 ^ (i+1)<18446744073709551616:=by rw [Nat.pow_succ,Nat.mul_comm (128 ^ i) 128,←Nat.mul_assoc];exact Nat.lt_of_le_of_lt (Nat.mul_le_mul_right _ (Nat.div_mul_le_self n 128)) hlt
    rw [ih (n / 128) (by omega) (i+1) _ hd (.inr (by omega))];have e1:(((n % 128+128:Nat):Int)) % 128=((n % 128:Nat):Int):=(by omega);rw [e1,List.length_cons];have e2:(n:Int)=((n % 128:Nat):Int)+128 * ((n / 128:Nat):Int):=(by omega);refine Prod.ext ?_ (Prod.ext ?_ rfl)
    ·show acc+((n % 128:Nat):Int) * 128 ^ i+((n / 128:Nat):Int) * 128 ^ (i+1)=acc+(n:Int) * 128 ^ i;rw [Int.pow_succ];generalize (128:Int) ^ i=P at *;rw [Int.add_assoc,←Int.mul_assoc,Int.mul_right_comm,←Int.add_mul];congr 2;omega
    ·show ((i+1:Nat):Int)+((uvB (n / 128)).length:Int)=(i:Int)+(((uvB (n / 128)).length+1:Nat):Int);omega
   ·rintro (⟨rfl,h1⟩|h1)
    ·have h4:(128:Nat) ^ 9=9223372036854775808:=(by decide);rw [h4] at hlt;omega
    ·exact h9 h1
/-! ### texts,records -/
def textB(s:List Int):List Int:=uvB s.length++s
def u32(v:Int):Int:=v % 4294967296
def vecB(l:List Int):List Int:=l.flatMap fun v=>leB (u32 v) 4
def flsB(l:List Int):List Int:=l.flatMap fun v=>leB v 8
theorem fm_len(f:Int→List Int)(k:Nat)(hf:∀ x,(f x).length=k)(l:List Int):(l.flatMap f).length=k * l.length:=by
 induction l with
 | nil=>simp
 | cons x l ih=>rw [List.flatMap_cons,List.length_append,ih,hf,List.length_cons,Nat.mul_succ];omega
theorem vecB_len(l:List Int):(vecB l).length=4 * l.length:=fm_len _ 4 (fun x=>leB_len _ _) l
theorem flsB_len(l:List Int):(flsB l).length=8 * l.length:=fm_len _ 8 (fun x=>leB_len _ _) l
theorem fm_by(f:Int→List Int)(hf:∀ x,IsBy (f x))(l:List Int):IsBy (l.flatMap f):=fun x hx=>by obtain ⟨y,_,hy⟩:=List.mem_flatMap.1 hx;exact hf y x hy
theorem vecB_by(l:List Int):IsBy (vecB l):=fm_by _ (fun _=>leB_by _ _) l
theorem flsB_by(l:List Int):IsBy (flsB l):=fm_by _ (fun _=>leB_by _ _) l
theorem textB_by{s:List Int}(h:IsBy s):IsBy (textB s):=(uvB_by _).append h
def itemB(x:Int×List Int×List Int):List Int:=leB x.1 8++uvB x.2.1.length++vecB x.2.1++textB x.2.2
theorem itemB_by{x:Int×List Int×List Int}(h:IsBy x.2.2):IsBy (itemB x):=(((leB_by _ _).append (uvB_by _)).append (vecB_by _)).append (textB_by h)
def nums(n k:Nat)(xs:List Int):List Int:=(List.range k).map fun i=>leV ((xs.drop (n * i)).take n)
theorem nums_succ(n k:Nat)(xs:List Int):nums n (k+1) xs=nums n k xs++[leV ((xs.drop (n * k)).take n)]:=by simp [nums,List.range_succ]
theorem nums_len(n k:Nat)(xs:List Int):(nums n k xs).length=k:=by simp [nums]
theorem nums_cons(n k:Nat)(a xs:List Int)(ha:a.length=n):nums n (k+1) (a++xs)=leV a :: nums n k xs:=by
 unfold nums;rw [List.range_succ_eq_map,List.map_cons,List.map_map];congr 1
 ·rw [Nat.mul_zero,List.drop_zero,List.take_append_of_le_length (by omega),List.take_of_length_le (by omega)]
 ·refine List.map_congr_left fun i _=>?_;show leV (((a++xs).drop (n * (i+1))).take n)=_;rw [Nat.mul_succ,show n * i+n=a.length+n * i by omega,List.drop_append,List.drop_of_length_le (by omega),List.nil_append,Nat.add_sub_cancel_left]
theorem nums_fm(f:Int→List Int)(g:Int→Int)(n:Nat)(hf:∀ x,(f x).length=n)(l:List Int)(rest:List Int)(hg:∀ x∈l,leV (f x)=g x):nums n l.length (l.flatMap f++rest)=l.map g:=by
 induction l with
 | nil=>simp [nums]
 | cons x l ih=>
  rw [List.flatMap_cons,List.append_assoc,List.length_cons,nums_cons n _ _ _ (hf x),ih (fun y hy=>hg y (List.mem_cons_of_mem _ hy)),hg x (by simp),List.map_cons]
def i32(u:Int):Int:=if u<2147483648 then u else u-4294967296
theorem i32_u32{v:Int}(h0 : -2147483648≤v)(h1:v<2147483648):i32 (u32 v)=v:=by unfold i32 u32;split<;>omega
end Go.Proofs.YtcgmgdjeamidlaaGreat
namespace Go.Proofs.YtcgmgdjeamidlaaGreat
set_option maxRecDepth 100000
set_option maxHeartbeats 16000000
open Go.RowKit Go.ChangeShapes Go.WideShapes Go.ChangeAt Go.Proofs.Tryz
set_option linter.unusedVariables false
set_option linter.unusedSimpArgs false
abbrev tSs:TypeId:=74
abbrev tHow:TypeId:=221
abbrev tDo:TypeId:=162
theorem sess_new(base:Value)(hb:∃ t v,base=.iface t v)(w:World):Calls prog 13 #[base] w fun e w'=>e=.returned (.pointer (some ⟨w.heap.size,0,none⟩))∧w'=w.alloc (.cells #[base,.int .u64 0] tSs):=by obtain ⟨t,v,rfl⟩:=hb;go_enter func13,ntmps13;go_wp2_with fail;go_ret;exact ⟨rfl,rfl⟩
def howL:List (Int×Value):=[(1,.func (.func 141) #[] #[]),(2,.func (.func 142) #[] #[]),(3,.func (.func 143) #[] #[]),(4,.func (.func 144) #[] #[]),(5,.func (.func 145) #[] #[]),(6,.func (.func 146) #[] #[]),(7,.func (.func 147) #[] #[]),(8,.func (.func 148) #[] #[]),(9,.func (.func 149) #[] #[]),(10,.func (.func 150) #[] #[]),(11,.func (.func 151) #[] #[])]
theorem zeroDo(w:World):(zeroValue tDo).run prog w=.ok .nilFunc w:=by kernel_rfl
theorem how_on(k:Int)(w:World):Calls prog 77 #[.int .i64 k] w fun e w'=>e=.returned ((lk k howL).getD .nilFunc)∧Below w.heap.size w w':=by have hmm:=@run_makeMap prog;have M0:=Ξ (MapAt.made w .i64);have P0:Hid (Only [w.heap.size] w (w.alloc (.map #[] 0))):=Ξ ((Ω _ w).alloc _);go_enter func77,ntmps77;go_wp2_with (refine wpList_insert_at _ rfl (.tmp 3) (.const (.int .i64 1)) (.func 141) tHow rfl 47 tDo .i64 underlying221 underlying47 _ [] rfl M0.out 1 (.func (.func 141) #[] #[]) rfl rfl ?_);intro m1 hm1 ho1 hz1;have N1:=Ξ hm1;have P1:=Ξ ((P0.out).trans ho1 (by simp));clear hm1 ho1 hz1;go_wp2_with (refine wpList_insert_at _ rfl (.tmp 3) (.const (.int .i64 2)) (.func 142) tHow rfl 47 tDo .i64 underlying221 underlying47 _ _ rfl N1.out 2 (.func (.func 142) #[] #[]) rfl rfl ?_);intro m2 hm2 ho2 hz2;have N2:=Ξ hm2;have P2:=Ξ ((P1.out).trans ho2 (by simp));clear hm2 ho2 hz2;go_wp2_with (refine wpList_insert_at _ rfl (.tmp 3) (.const (.int .i64 3)) (.func 143) tHow rfl 47 tDo .i64 underlying221 underlying47 _ _ rfl N2.out 3 (.func (.func 143) #[] #[]) rfl rfl ?_);intro m3 hm3 ho3 hz3;have N3:=Ξ hm3;have P3:=Ξ ((P2.out).trans ho3 (by simp));clear hm3 ho3 hz3;go_wp2_with (refine wpList_insert_at _ rfl (.tmp 3) (.const (.int .i64 4)) (.func 144) tHow rfl 47 tDo .i64 underlying221 underlying47 _ _ rfl N3.out 4 (.func (.func 144) #[] #[]) rfl rfl ?_);intro m4 hm4 ho4 hz4;have N4:=Ξ hm4;have P4:=Ξ ((P3.out).trans ho4 (by simp));clear hm4 ho4 hz4;go_wp2_with (refine wpList_insert_at _ rfl (.tmp 3) (.const (.int .i64 5)) (.func 145) tHow rfl 47 tDo .i64 underlying221 underlying47 _ _ rfl N4.out 5 (.func (.func 145) #[] #[]) rfl rfl ?_);intro m5 hm5 ho5 hz5;have N5:=Ξ hm5;have P5:=Ξ ((P4.out).trans ho5 (by simp));clear hm5 ho5 hz5;go_wp2_with (refine wpList_insert_at _ rfl (.tmp 3) (.const (.int .i64 6)) (.func 146) tHow rfl 47 tDo .i64 underlying221 underlying47 _ _ rfl N5.out 6 (.func (.func 146) #[] #[]) rfl rfl ?_);intro m6 hm6 ho6 hz6;have N6:=Ξ hm6;have P6:=Ξ ((P5.out).trans ho6 (by simp));clear hm6 ho6 hz6;go_wp2_with (refine wpList_insert_at _ rfl (.tmp 3) (.const (.int .i64 7)) (.func 147) tHow rfl 47 tDo .i64 underlying221 underlying47 _ _ rfl N6.out 7 (.func (.func 147) #[] #[]) rfl rfl ?_);intro m7 hm7 ho7 hz7;have N7:=Ξ hm7;have P7:=Ξ ((P6.out).trans ho7 (by simp));clear hm7 ho7 hz7;go_wp2_with (refine wpList_insert_at _ rfl (.tmp 3) (.const (.int .i64 8)) (.func 148) tHow rfl 47 tDo .i64 underlying221 underlying47 _ _ rfl N7.out 8 (.func (.func 148) #[] #[]) rfl rfl ?_);intro m8 hm8 ho8 hz8;have N8:=Ξ hm8;have P8:=Ξ ((P7.out).trans ho8 (by simp));clear hm8 ho8 hz8;go_wp2_with (refine wpList_insert_at _ rfl (.tmp 3) (.const (.int .i64 9)) (.func 149) tHow rfl 47 tDo .i64 underlying221 underlying47 _ _ rfl N8.out 9 (.func (.func 149) #[] #[]) rfl rfl ?_);intro m9 hm9 ho9 hz9;have N9:=Ξ hm9;have P9:=Ξ ((P8.out).trans ho9 (by simp));clear hm9 ho9 hz9;go_wp2_with (refine wpList_insert_at _ rfl (.tmp 3) (.const (.int .i64 10)) (.func 150) tHow rfl 47 tDo .i64 underlying221 underlying47 _ _ rfl N9.out 10 (.func (.func 150) #[] #[]) rfl rfl ?_);intro m10 hm10 ho10 hz10;have N10:=Ξ hm10;have P10:=Ξ ((P9.out).trans ho10 (by simp));clear hm10 ho10 hz10;go_wp2_with (refine wpList_insert_at _ rfl (.tmp 3) (.const (.int .i64 11)) (.func 151) tHow rfl 47 tDo .i64 underlying221 underlying47 _ _ rfl N10.out 11 (.func (.func 151) #[] #[]) rfl rfl ?_);intro m11 hm11 ho11 hz11;have N11:=Ξ hm11;have P11:=Ξ ((P10.out).trans ho11 (by simp));clear hm11 ho11 hz11;have LK:Hid ((lk k (up 11 (.func (.func 151) #[] #[]) (up 10 (.func (.func 150) #[] #[]) (up 9 (.func (.func 149) #[] #[]) (up 8 (.func (.func 148) #[] #[]) (up 7 (.func (.func 147) #[] #[]) (up 6 (.func (.func 146) #[] #[]) (up 5 (.func (.func 145) #[] #[]) (up 4 (.func (.func 144) #[] #[]) (up 3 (.func (.func 143) #[] #[]) (up 2 (.func (.func 142) #[] #[]) (up 1 (.func (.func 141) #[] #[]) [])))))))))))).getD .nilFunc=(lk k howL).getD .nilFunc):=Ξ rfl;have NK:Hid (MapAt m11 w.heap.size .i64 (up 11 (.func (.func 151) #[] #[]) (up 10 (.func (.func 150) #[] #[]) (up 9 (.func (.func 149) #[] #[]) (up 8 (.func (.func 148) #[] #[]) (up 7 (.func (.func 147) #[] #[]) (up 6 (.func (.func 146) #[] #[]) (up 5 (.func (.func 145) #[] #[]) (up 4 (.func (.func 144) #[] #[]) (up 3 (.func (.func 143) #[] #[]) (up 2 (.func (.func 142) #[] #[]) (up 1 (.func (.func 141) #[] #[]) [])))))))))))):=N11;have BK:Hid (Below w.heap.size w m11):=Ξ (P11.out.toBelow (Θ _) (by simp));clear N1 P1 N2 P2 N3 P3 N4 P4 N5 P5 N6 P6 N7 P7 N8 P8 N9 P9 N10 P10 N11 P11 M0 P0;generalize (up 11 (.func (.func 151) #[] #[]) (up 10 (.func (.func 150) #[] #[]) (up 9 (.func (.func 149) #[] #[]) (up 8 (.func (.func 148) #[] #[]) (up 7 (.func (.func 147) #[] #[]) (up 6 (.func (.func 146) #[] #[]) (up 5 (.func (.func 145) #[] #[]) (up 4 (.func (.func 144) #[] #[]) (up 3 (.func (.func 143) #[] #[]) (up 2 (.func (.func 142) #[] #[]) (up 1 (.func (.func 141) #[] #[]) [])))))))))))=L at *;obtain ⟨fv,hfv⟩:∃ fv,(lk k howL).getD .nilFunc=fv:=⟨_,rfl⟩;have FE:=Ξ hfv;rw [hfv] at LK;clear hfv;go_wp2_with (at_lookup;refine wpList_look_to _ rfl (.tmp 4) (.tmp 5) tHow rfl 47 tDo .i64 underlying221 underlying47 .nilFunc zeroDo w.heap.size L rfl NK.out k rfl fv LK.out ?_);go_ret;exact ⟨by rw [FE.out];rfl,BK.out⟩
theorem results_rp_one{fn:Func}{p:Tmp}(h:fn.results=#[.cell p tRp])(tmps:Array Value)(w:World)(g:Nat)(R:Array Value)(hR:R.size=9)(hp:tmps.getD p undef=.pointer (some ⟨g,0,none⟩))(hg:Row w g R tRp):(results fn tmps).run prog w=.ok (.agg R) w:=by
 have hp':tmps[p]?.getD undef=.pointer (some ⟨g,0,none⟩):=by simpa using hp
 simp only [results,h];simp [Sem.run_bind,hp',asAddr,Result.andThen,run_loadVar_row w g _ _ _ _ _ hg underlying41 rfl (by rw [show (prog.info? tRp).map (·.size)=some 9 from by kernel_rfl,hR])]
theorem done_ok(m:Int)(w:World):Calls prog 186 #[.int .i64 0,.int .i64 m] w fun e w'=>e=.returned (.agg (doneCells m))∧Below w.heap.size w w':=by go_enter func186,ntmps186;go_wp2_with fail;refine bodyPost_ret (results_rp_one rfl _ _ w.heap.size (doneCells m) rfl rfl (Φ w _ _)) rfl ?_;exact ⟨rfl,(Δ _ w).alloc (Θ _) _⟩
abbrev baseV(p:Nat):Value:=.iface 24 (.pointer (some ⟨p,0,none⟩))
abbrev zeroRp:Array Value:=#[.int .i64 0,.int .i64 0,.int .i64 0,.int .i64 0,.int .u64 0,.slice none 0 0,.slice none 0 0,.slice none 0 0,.slice none 0 0]
end Go.Proofs.YtcgmgdjeamidlaaGreat
