/- Texts of one proof, joined. -/
import Derived.Test.YtcgmgdjeamidlaaGreatMg07
import Derived.Test.YtcgmgdjeamidlaaGreatStH
import Derived.Deep.RegionHeld3
import Derived.Deep.CutRange
import Derived.Test.YtcgmgdjeamidlaaGreatMg05
namespace Go.Proofs.YtcgmgdjeamidlaaGreat
set_option maxRecDepth 100000
set_option maxHeartbeats 16000000
open Go.RowKit Go.ChangeShapes Go.WideShapes Go.ChangeAt Go.Proofs.Tryz
set_option linter.unusedVariables false
set_option linter.unusedSimpArgs false
def u8s(xs:List Int):List UInt8:=xs.map fun x=>UInt8.ofNat x.toNat
theorem u8s_back{xs:List Int}(h:IsBy xs):(u8s xs).map (fun c=>((c.toNat:Nat):Int))=xs:=by
 unfold u8s;rw [List.map_map];conv=>rhs;rw [←List.map_id xs]
 refine List.map_congr_left fun x hx=>?_;have:=h x hx;simp only [Function.comp,id];rw [UInt8.toNat_ofNat'];omega
theorem holds_of{w:World}{s:Sl}(h:SlRd .u8 w s)(hb:IsBy s.xs):Lib.HoldsBytes w s.v (u8s s.xs):=by refine ⟨s.a,s.c,by unfold Sl.v u8s;simp,fun ha=>by rw [(h.nn ha).1];rfl,fun a ha i x hx=>?_⟩;unfold u8s at hx;rw [List.getElem?_map,Option.map_eq_some_iff] at hx;obtain ⟨z,hz,rfl⟩:=hx;obtain ⟨b,o,e,hc⟩:=h.at_ hz;rw [e] at ha;cases ha;rw [add_plain,hc i z hz];have:=hb z (List.mem_of_getElem? hz);rw [UInt8.toNat_ofNat'];congr 2;omega
theorem fresh_sl{B:Nat}{w:World}{v:Value}{xs:List Int}(h:Lib.FreshBytes B w v (u8s xs))(hb:IsBy xs)(hl:xs.length≤1000000):∃ s:Sl,v=s.v∧s.xs=xs∧SlRd .u8 w s∧(∀ b∈s.bs,B≤b):=by
 obtain ⟨g,cap,zs,rfl,hB,hlc,hm,hz,hzb,he,hc,_⟩:=h;have hlen:(u8s xs).length=xs.length:=by unfold u8s;simp
 rw [hlen] at hlc he;have hzx:zs.take xs.length=xs:=by have h1:IsBy (zs.take xs.length):=fun x hx=>hzb x (List.mem_of_mem_take hx);have h2:u8s (zs.take xs.length)=u8s xs:=he;rw [←u8s_back h1,h2,u8s_back hb]
 refine ⟨⟨some ⟨g,0,none⟩,cap,xs⟩,by unfold Sl.v;rw [hlen],rfl,⟨.inr ⟨g,0,cap,rfl,fun i hi=>?_⟩,fun hne b hb'=>?_,fun h=>by simp at h,hl⟩,fun b hb'=>by simp [Sl.bs] at hb';omega⟩
 ·have hi':i<xs.length:=hi;rw [Nat.zero_add,hc i (by omega)];congr 2;show zs.getD i 0=xs[i]?.getD 0;conv=>rhs;rw [←hzx]
  rw [List.getElem?_take_of_lt hi',List.getD_eq_getElem?_getD]
 ·simp [Sl.bs] at hb';subst hb';have hp:0<xs.length:=List.length_pos_iff.2 hne;exact World.block_lt_of_cell? w _ (hc 0 (by omega))
def GivesS(zs:List Int)(w:World)(e:Ending)(w':World):Prop:=∃ a n c,e=.returned (.slice a n c)∧SlRd .u8 w' ⟨a,c,zs⟩∧zs.length=n∧Below w.heap.size w w'∧∀ b∈(Sl.mk a c zs).bs,w.heap.size≤b
theorem Gives.s{zs:List Int}{w:World}{e:Ending}{w':World}(h:Gives zs w e w')(hl:zs.length≤1000000):GivesS zs w e w':=by obtain ⟨v,rfl,ho,hb⟩:=h;obtain ⟨⟨a,c,ys⟩,rfl,rfl,h1,h2,_⟩:=own_sl ho hl;exact ⟨a,ys.length,c,rfl,h1,rfl,hb,fun b hb=>(h2 b hb).1⟩
theorem join4{w:World}{b:Nat}{s0 s1 s2 s3:Sl}(hr:Row w b #[s0.v,s1.v,s2.v,s3.v] 30)(h0:SlRd .u8 w s0)(h1:SlRd .u8 w s1)(h2:SlRd .u8 w s2)(h3:SlRd .u8 w s3)(b0:IsBy s0.xs)(b1:IsBy s1.xs)(b2:IsBy s2.xs)(b3:IsBy s3.xs)(hl:(s0.xs++s1.xs++s2.xs++s3.xs).length≤1000000) :
  Calls prog 124 #[.slice (some ⟨b,0,none⟩) 4 4] w (GivesS (s0.xs++s1.xs++s2.xs++s3.xs) w):=by
 have hj:Lib.join [u8s s0.xs,u8s s1.xs,u8s s2.xs,u8s s3.xs] []=u8s (s0.xs++s1.xs++s2.xs++s3.xs):=by rw [Lib.join_cons];unfold Lib.joinTail u8s;simp
 have J:=Ξ (Any.bytes_Join_many Tryz.joinD b 0 4 4 [s0.v,s1.v,s2.v,s3.v] [u8s s0.xs,u8s s1.xs,u8s s2.xs,u8s s3.xs] (.slice none 0 0) [] w rfl (by omega) ⟨rfl,fun i v hv=>by
   rw [add_plain,Nat.zero_add,hr.cell];simpa using hv,fun i v l hv hl=>by
   rcases i with _|_|_|_|i<;>simp at hv hl
   ·rw [←hv,←hl];exact holds_of h0 b0
   ·rw [←hv,←hl];exact holds_of h1 b1
   ·rw [←hv,←hl];exact holds_of h2 b2
   ·rw [←hv,←hl];exact holds_of h3 b3⟩ (by omega) ⟨none,0,rfl,fun _=>rfl,fun _ h=>by simp at h⟩ (by omega) (by
   simp [Lib.lens,u8s] at hl ⊢;omega))
 rw [hj] at J;have HB:Hid (IsBy (s0.xs++s1.xs++s2.xs++s3.xs)∧(s0.xs++s1.xs++s2.xs++s3.xs).length≤1000000):=Ξ ⟨((b0.append b1).append b2).append b3,hl⟩;clear hr h0 h1 h2 h3 b0 b1 b2 b3 hl hj;generalize s0.xs++s1.xs++s2.xs++s3.xs=zs at *;go_enter func124,ntmps124;go_wp2_with fail;refine J.out.mono ?_;rintro _ w1 ⟨v,rfl,hf,hb⟩;obtain ⟨⟨a,c,xs⟩,rfl,rfl,hs,hg⟩:=fresh_sl hf HB.out.1 HB.out.2;have N:Hid (GivesS xs w (.returned (Sl.v ⟨a,c,xs⟩)) w1):=Ξ ⟨a,xs.length,c,rfl,hs,rfl,hb,hg⟩;clear hf hb hs hg J;unfold Sl.v at N ⊢;go_wp2_with fail;go_ret;exact N.out
def FormTo(zs:List Int)(w:World)(e:Ending)(w':World):Prop:=∃ s:Sl,e=.returned (.tuple #[s.v,.int .i64 0])∧s.xs=zs∧SlRd .u8 w' s∧(∀ b∈s.bs,w.heap.size≤b)∧Below w.heap.size w w'
theorem le4_u32(v:Int):leB (u32 v) 4=[v % 256,v / 256 % 256,v / 65536 % 256,v / 16777216 % 256]:=by
 unfold u32;simp only [leB,leAt,List.range_succ,List.range_zero,List.nil_append,List.map_append,List.map_cons,List.map_nil,List.cons_append];simp only [List.cons.injEq,and_true];refine ⟨?_,?_,?_,?_⟩
 ·rw [show (2:Int) ^ (8 * 0)=1 from rfl];omega
 ·rw [show (2:Int) ^ (8 * 1)=256 from rfl];omega
 ·rw [show (2:Int) ^ (8 * 2)=65536 from rfl];omega
 ·rw [show (2:Int) ^ (8 * 3)=16777216 from rfl];omega
theorem join_item{w:World}{key:Int}{vec tag:List Int}{a4 a5 a6 a7:Option Addr}{c4 c5 c6 c7 n4 n5 n6 n7 i:Nat}(h4:SlRd .u8 w ⟨a4,c4,leB key 8⟩)(h6:SlRd .u8 w ⟨a6,c6,uvB i⟩)(h5:SlRd .u8 w ⟨a5,c5,vecB vec⟩)(h7:SlRd .u8 w ⟨a7,c7,textB tag⟩)(hb:IsBy tag)(hv:vec.length≤4096)(ht:tag.length≤1024)
  (l4:(leB key 8).length=n4) (l6:(uvB i).length=n6) (l5:(vecB vec).length=n5) (l7:(textB tag).length=n7) (hi:vec.length=i) :
  Calls prog 124 #[.slice (some ⟨w.heap.size,0,none⟩) 4 4] (w.alloc (.cells #[.slice a4 n4 c4,.slice a6 n6 c6,.slice a5 n5 c5,.slice a7 n7 c7] 30)) (GivesS (itemB (key,vec,tag)) (w.alloc (.cells #[.slice a4 n4 c4,.slice a6 n6 c6,.slice a5 n5 c5,.slice a7 n7 c7] 30))):=by
 subst l4 l5 l6 l7 hi;have k:Only [] w (w.alloc (.cells #[.slice a4 (leB key 8).length c4,.slice a6 (uvB vec.length).length c6,.slice a5 (vecB vec).length c5,.slice a7 (textB tag).length c7] 30)):=(Ω [] w).alloc _;exact join4 (s0:=⟨a4,c4,leB key 8⟩) (s1:=⟨a6,c6,uvB vec.length⟩) (s2:=⟨a5,c5,vecB vec⟩) (s3:=⟨a7,c7,textB tag⟩) (Φ w _ _) (h4.only k (by simp)) (h6.only k (by simp)) (h5.only k (by simp)) (h7.only k (by simp)) (leB_by _ _) (uvB_by _) (vecB_by _) (textB_by hb) (by have h1:=uvB_len 2 vec.length (by omega) (by omega);have h2:=uvB_len 2 tag.length (by omega) (by omega);have h3:=vecB_len vec;unfold textB;simp only [List.length_append,leB_len];omega)
structure VcI(w wr:World)(vec:List Int)(v:Value)(i:Nat):Prop where
 own:wr.ownsRow w.heap.size 5 1 v (4 * i) ((vecB (vec.take i)).map (Value.int .u8))
 bl:Below w.heap.size w wr
theorem form_item{x:Rc3}{w:World}(hx:x.At w)(hk0:0≤x.key)(hk1:x.key<18446744073709551616)(h1:0<x.vec.xs.length)(h2:x.vec.xs.length≤4096)(h3:x.tag.xs.length≤1024):Calls prog 71 #[x.v] w (FormTo (itemB x.c) w):=by
 obtain ⟨i0',hi0,hz0,hz1,hz2⟩:=info_parts infoBy;obtain ⟨n,hn⟩:∃ n,x.vec.xs.length=n:=⟨_,rfl⟩;obtain ⟨m,hm⟩:∃ n,x.tag.xs.length=n:=⟨_,rfl⟩;obtain ⟨va,hva⟩:∃ n,x.vec.a=n:=⟨_,rfl⟩;have MY:=Ξ (item_ok (key:=x.key) (w:=w.alloc (.cells #[.int .u64 x.key,x.vec.v,x.tag.v] tIt)) h1 h2 h3);have R1:=Ξ (Φ w #[.int .u64 x.key,x.vec.v,x.tag.v] tIt);have HX:=Ξ hx;have HK:=Ξ (Ψ hk0 hk1);have HN:Hid (x.vec.xs.length=n∧0<n∧n≤4096∧x.tag.xs.length=m∧m≤1024):=Ξ ⟨hn,by omega,by omega,hm,by omega⟩;have em:IntKind.i64.wrap (4 * (n:Int))=((4 * n:Nat):Int):=by rw [show 4 * (n:Int)=((4 * n:Nat):Int) by omega];exact IntWalk.i64_in _ (by omega)
 have HC:Hid (∀ i z,(x.vec.xs)[i]? = some z→∃ b o,va=some ⟨b,o,none⟩∧b<w.heap.size∧w.cell? ⟨b,o+i,none⟩=some (.int .i32 z)):=Ξ fun i z hz=>by obtain ⟨b,o,h4,h5⟩:=hx.vec.at_ hz;exact ⟨b,o,by rw [←hva];exact h4,World.block_lt_of_cell? w _ (h5 i z hz),h5 i z hz⟩
 unfold Rc3.v Sl.v at *;rw [hn,hm,hva] at R1 MY ⊢;clear hx h1 h2 h3 hn hm hva hk0 hk1;have K1:Hid (Only [] w (w.alloc (.cells #[.int .u64 x.key,.slice va n x.vec.c,.slice x.tag.a m x.tag.c] tIt))):=Ξ ((Ω [] w).alloc _);obtain ⟨bx,hbx⟩:∃ bx,w.heap.size=bx:=⟨_,rfl⟩;have BX:=Ξ hbx;rw [hbx] at R1;go_enter func71,ntmps71;go_wp2_with fail;refine MY.out.mono ?_;generalize w.alloc (.cells #[.int .u64 x.key,.slice va n x.vec.c,.slice x.tag.a m x.tag.c] tIt)=w0 at *;rintro _ w1 ⟨rfl,hb1⟩;have K2:=Ξ (K1.out.below hb1);have R2:=Ξ (R1.out.only ((Ω [] w0).below hb1) (by simp));have l1:=R2.out.c 1 (.slice va n x.vec.c);clear hb1 MY R1 K1 hbx;go_wp2_with (refine wpList_make0 rfl _ _ _ rfl _ i0' _ underlying30 hi0 hz0 hz1 rfl .i64 .i64 (4 * n) rfl rfl (by rw [hz2];have:=HN.out;omega) (by have:=HN.out;unfold maxLen;omega) ?_;intro w2 hr2 ho2 hs2;have l2:w2.cell? ⟨bx,1,none⟩=some (.slice va n x.vec.c):=(R2.out.only ho2 (by simp)).cell 1);have RB:Hid (∀ y,Below w1.heap.size w1 y→Row y bx #[.int .u64 x.key,.slice va n x.vec.c,.slice x.tag.a m x.tag.c] tIt):=Ξ fun y hy=>R2.out.only ((Ω [] w1).below hy) (by simp);have I0:Hid (VcI w1 w2 x.vec.xs (.slice (some ⟨w1.heap.size,0,none⟩) 0 (4 * n)) 0):=Ξ ⟨by simpa [vecB] using hr2,ho2.toBelow (Θ _) (by simp)⟩;clear hr2 ho2 hs2 l1 R2;go_wp2_with fail;go_loopw [5,22] (fun v u wr=>∃ i:Nat,u=.int .i64 (i:Int)∧Hid (i≤n)∧Hid (VcI w1 wr x.vec.xs v i)) (fun _ u _=>n-(intOf u).toNat)
 case atStart=>exact ⟨0,rfl,Ξ (by omega),I0⟩
 case round=>
  clear I0;obtain ⟨i,rfl,HI,HV⟩:=hrel;have ej:IntKind.i64.wrap ((i:Int)+1)=((i+1:Nat):Int):=IntWalk.i64_in _ (by have:=HI.out;have:=HN.out;omega);by_cases hlt:i<n
  ·have e1:decide ((i:Int)<(n:Int))=true:=Γ (by omega);have e1b:decide (i<n)=true:=Γ hlt;have e1':(i:Int)<(n:Int):=(by omega);have HLT:=Ξ hlt;obtain ⟨z,hz⟩:∃ z,x.vec.xs[i]? = some z:=⟨_,List.getElem?_eq_getElem (by rw [HN.out.1];exact hlt)⟩;obtain ⟨b,o,rfl,hbw,hcell⟩:=HC.out i z hz;have l3:wr.cell? ⟨b,o+i,none⟩=some (.int .i32 z):=by rw [HV.out.bl.cell (p:=⟨b,o+i,none⟩) (Nat.lt_of_lt_of_le hbw K2.out.size),K2.out.cell hbw (by simp)];exact hcell
   have HZ:=Ξ hz;clear hz hbw hcell hlt;have EV:Hid (vecB (x.vec.xs.take (i+1))=vecB (x.vec.xs.take i)++[z % 256,z % 4294967296 / 256 % 256,z % 4294967296 / 65536 % 256,z % 4294967296 / 16777216]):=Ξ (by obtain ⟨hi,hx⟩:=List.getElem?_eq_some_iff.1 HZ.out;rw [List.take_succ_eq_append_getElem hi,hx];unfold vecB;rw [List.flatMap_append,List.flatMap_cons,List.flatMap_nil,List.append_nil,le4_u32];congr 1;simp only [List.cons.injEq,and_true,true_and];omega)
   go_wp2_with (at_builtin;refine wpList_append_at rfl (.tmp 28) (.tmp 40) 30 rfl w1.heap.size 5 i0' (.int .u8 0) 1 1 underlying30 hi0 hz0 hz1 hz2 rfl (by decide) u5 (4 * i) _ rfl (HV.out.own.alloc _) ⟨wr.heap.size,0,none⟩ 4 4 [.int .u8 (z % 256),.int .u8 (z % 4294967296 / 256 % 256),.int .u8 (z % 4294967296 / 65536 % 256),.int .u8 (z % 4294967296 / 16777216)] rfl rfl (fun q u hq=>by rcases q with _|_|_|_|q<;>simp at hq<;>subst hq<;>simp [go_sem]) (by simp [Value.oneCell']) (by unfold maxLen;have:=HLT.out;have:=HN.out;omega) (by have:=HLT.out;have:=HN.out;omega) (by have:=HV.out.bl.size;simp;omega) ?_);intro v5 w5 hown5 hg5 hf5;have F2:Hid (VcI w1 w5 x.vec.xs v5 (i+1)):=Ξ ⟨by rw [EV.out,List.map_append];exact hown5,HV.out.bl.trans ((((Ω _ wr).alloc _).grown hg5 (fun k hk=>.inl (by simp [hk]:k∈u5.ownBlock.toList))).toBelow HV.out.bl.size fun b hb=>(HV.out.own.lt b (by simpa using hb)).1)⟩;clear hown5 hg5 hf5;go_wp2_with fail;go_roundw;case rel=>exact ⟨i+1,by go_num,Ξ (by have:=HLT.out;omega),F2⟩
   case measure=>have:=HLT.out;simp [intOf];omega
  ·have e1:decide ((i:Int)<(n:Int))=false:=Λ (by omega);have e1b:decide (i<n)=false:=Λ hlt;obtain rfl:i=n:=by have:=HI.out;omega
   have hown:=HV.out.own;rw [List.take_of_length_le (by rw [HN.out.1];omega),show 4 * i=(vecB x.vec.xs).length by rw [vecB_len,HN.out.1]] at hown;obtain ⟨⟨a5,c5,x5⟩,rfl,rfl,hs5,hg5,_⟩:=own_sl hown (by rw [vecB_len,HN.out.1];have:=HN.out;omega);have S5:=Ξ hs5;have OW:=Ξ ((K2.out.below HV.out.bl));have SO:Hid (∀ y,Only [] wr y→y.cell? ⟨bx,0,none⟩=some (.int .u64 x.key)∧y.cell? ⟨bx,1,none⟩=some (.slice va i x.vec.c)∧y.cell? ⟨bx,2,none⟩=some (.slice x.tag.a m x.tag.c)):=Ξ fun y hy=>by have r:=(RB.out wr HV.out.bl).only hy (by simp);exact ⟨r.cell 0,r.cell 1,r.cell 2⟩
   have C1:Hid (∀ y,Only [] wr y→Calls prog 125 #[.slice none 0 0,.int .u64 x.key] y (GivesS (leB x.key 8) y)):=Ξ fun y hy=>(Put64_on x.key HK.out.1 HK.out.2 none 0 0 [] y rfl (.inl ⟨rfl,_,_,rfl⟩) (by omega)).mono fun _ _ h=>by rw [List.nil_append] at h;exact h.s (by rw [leB_len];omega)
   have C2:Hid (∀ y,Only [] wr y→Calls prog 123 #[.slice none 0 0,.int .u64 (i:Int)] y (GivesS (uvB i) y)):=Ξ fun y hy=>(putuv_gen (SlRd.no .u8 y) i (by have:=HN.out;omega) (by simp [Sl.no])).mono fun _ _ h=>by have h':Gives (uvB i) y _ _:=h;exact h'.s (by have:=uvB_len 2 i (by have:=HN.out;omega) (by omega);omega)
   have C3:Hid (∀ y,Only [] wr y→Calls prog 126 #[.slice none 0 0,.slice x.tag.a m x.tag.c] y (GivesS (textB x.tag.xs) y)):=Ξ fun y hy=>by have h:=puttext_gen (SlRd.no .u8 y) (HX.out.tag.only (OW.out.trans hy (by simp)) (by simp)) (by simp [Sl.no]) (by have:=HN.out;omega);unfold Sl.v at h;rw [HN.out.2.2.2.1] at h;exact h.mono fun _ _ h=>by have h':Gives (textB x.tag.xs) y _ _:=h;refine h'.s ?_;unfold textB;have:=uvB_len 2 x.tag.xs.length (by have:=HN.out;omega) (by omega);have:=HN.out;simp;omega
   have wi:IntKind.u64.wrap (i:Int)=(i:Int):=by rw [show IntKind.u64.wrap (i:Int)=(i:Int) % 18446744073709551616 from rfl];have:=HN.out;omega
   unfold Sl.v;clear hown hs5 hg5 hlt;go_upto_region 11 with fail;go_region_held3 (fun y=>y.cell? ⟨bx,0,none⟩=some (.int .u64 x.key)∧y.cell? ⟨bx,1,none⟩=some (.slice va i x.vec.c)∧y.cell? ⟨bx,2,none⟩=some (.slice x.tag.a m x.tag.c))
    (first
     | exact SO.out _ X7.out
     | exact SO.out _ X6.out
     | exact SO.out _ (X6.out.alloc _)
     | exact SO.out _ X5.out
     | exact SO.out _ X4.out
     | exact SO.out _ (Ω _ wr).drew)
    (first
     | ((with_reducible refine (C1.out wr.drew (Ω _ wr).drew).mono ?_);rintro _ w4 ⟨a4,n4,c4,rfl,h4,l4,b4,g4⟩;have X4:Hid (Only [] wr w4):=Ξ (((Ω _ wr).drew).below b4);have H4:=Ξ (Ψ h4 l4);clear h4 l4 b4 g4)
     | ((with_reducible refine (C2.out w4 X4.out).mono ?_);rintro _ w5 ⟨a6,n6,c6,rfl,h4,l4,b4,g4⟩;have X5:=Ξ (X4.out.below b4);have H5:Hid (SlRd .u8 w5 ⟨a4,c4,leB x.key 8⟩∧SlRd .u8 w5 ⟨a6,c6,uvB i⟩∧(uvB i).length=n6):=Ξ ⟨H4.out.1.only ((Ω [] w4).below b4) (by simp),h4,l4⟩;clear h4 l4 b4 g4)
     | ((with_reducible refine (C3.out w5 X5.out).mono ?_);rintro _ w6 ⟨a7,n7,c7,rfl,h4,l4,b4,g4⟩;have X6:=Ξ (X5.out.below b4);have k6:=(Ω [] w5).below b4;have H6:Hid (SlRd .u8 w6 ⟨a4,c4,leB x.key 8⟩∧SlRd .u8 w6 ⟨a6,c6,uvB i⟩∧SlRd .u8 w6 ⟨a7,c7,textB x.tag.xs⟩∧(textB x.tag.xs).length=n7):=Ξ ⟨H5.out.1.only k6 (by simp),H5.out.2.1.only k6 (by simp),h4,l4⟩;have JN:=Ξ (join_item (w:=w6) (key:=x.key) (vec:=x.vec.xs) (tag:=x.tag.xs) H6.out.1 H6.out.2.1 (S5.out.only X6.out (by simp)) H6.out.2.2.1 HX.out.by_ (by have:=HN.out;omega) (by have:=HN.out;omega) H4.out.2 H5.out.2.2 rfl H6.out.2.2.2 HN.out.1);clear h4 l4 b4 g4 k6)
     | ((with_reducible refine JN.out.mono ?_);rintro _ w7 ⟨a8,n8,c8,rfl,h8,l8,b8,g8⟩;have X7:Hid (Only [] wr w7):=Ξ ((X6.out.alloc _).below b8);have FIN:Hid (FormTo (itemB x.c) w (.returned (.tuple #[.slice a8 n8 c8,.int .i64 0])) w7):=Ξ ⟨⟨a8,c8,itemB x.c⟩,by unfold Sl.v;simp only [show (itemB x.c).length=n8 from l8],rfl,h8,fun b hb=>by have h1:=g8 b hb;have h2:=OW.out.size;have h3:=X6.out.size;simp at h1;omega,(OW.out.trans X7.out (by simp)).toBelow (Θ _) (by simp)⟩;clear h8 l8 b8 g8))
   all_goals
    go_wp2_with fail;go_ret2;exact FIN.out
theorem record1_on{t:Sl}(g:Nat)(B:Nat)(y:World)(ht:SlRd .u8 y t)(hg:Row y g #[t.v] 30)(hB:B≤y.heap.size)(v:Value)(xs:List Int)(ho:y.ownsRow B 5 1 v xs.length (xs.map (Value.int .u8)))(hl:xs.length+t.xs.length≤1000000) :
  Calls prog 121 #[v,.pointer (some ⟨g,0,none⟩)] y (GivesAt B (xs++t.xs) y):=by
 obtain ⟨i0',hi0,hz0,hz1,hz2⟩:=info_parts infoU8;have c0:=hg.c 0 t.v;have HO:=Ξ ho;have HT:=Ξ ht.src;have HL:=Ξ hl;have HB:=Ξ hB;clear hg ho hl hB ht;unfold Sl.v at HT c0;go_enter func121,ntmps121;go_wp2_with (at_builtin;refine wpList_append_src rfl (.tmp 4) (.tmp 5) 30 rfl B 5 i0' (.int .u8 0) 1 1 underlying30 hi0 hz0 hz1 hz2 rfl (by decide) v xs.length _ rfl HO.out _ t.xs.length (t.xs.map (Value.int .u8)) rfl HT.out (by simp [Value.oneCell']) (by have:=HL.out;unfold maxLen;omega) (by have:=HL.out;omega) HB.out ?_);intro v5 w5 hown5 hg5;have N:Hid (GivesAt B (xs++t.xs) y (.returned v5) w5):=Ξ ⟨v5,rfl,by rw [List.length_append,List.map_append];exact hown5,(Δ _ _).grown hg5 HB.out (fun k hk=>(HO.out.lt k hk).1)⟩;clear hown5 hg5;go_wp2_with fail;go_ret;exact N.out
theorem record_on{x:Rc3}{w:World}(hx:x.At w)(hk0:0≤x.key)(hk1:x.key<18446744073709551616)(h1:0<x.vec.xs.length)(h2:x.vec.xs.length≤4096)(h3:x.tag.xs.length≤1024):Calls prog 69 #[x.v] w fun e w'=>∃ fv K,e=.returned fv∧Writes w' fv (itemB x.c) K∧(∀ b∈K,w.heap.size≤b)∧Below w.heap.size w w':=by
 have hmf:=hmf_;have k0:Below w.heap.size w (w.alloc (.cells #[.int .u64 x.key,x.vec.v,x.tag.v] tIt)):=(Δ _ w).alloc (Θ _) _;have FI:=Ξ (form_item (hx.below k0) hk0 hk1 h1 h2 h3);have K0:=Ξ k0;unfold Rc3.v Sl.v at *;clear hx h1 h2 h3 k0 hk0 hk1;go_enter func69,ntmps69;go_wp2_with fail;refine FI.out.mono ?_;rintro _ w1 ⟨s,rfl,hx,hs,hf,hb⟩;have H:=Ξ (Ψ hx (Ψ hs (Ψ hf hb)));have R:=Ξ (Φ w1 #[s.v] 30);unfold Sl.v at R ⊢;clear hx hs hf hb FI;go_wp2_with fail;go_ret;have hs:=H.out.2.1.only ((Ω [] w1).alloc (.cells #[.slice s.a s.xs.length s.c] 30)) (by simp);have hsz:w.heap.size≤w1.heap.size:=Nat.le_trans K0.out.size H.out.2.2.2.size;refine ⟨_,w1.heap.size :: s.kb,rfl,⟨121,_,rfl,enters_of func121 (by kernel_rfl) rfl,fun b hb=>?_,fun B y hy hB hB2 v xs ho hl=>?_⟩,fun b hb=>?_,(K0.out.trans (H.out.2.2.2.mono K0.out.size)).alloc hsz _⟩
 ·rcases List.mem_cons.1 hb with rfl|hb
  ·simp
  ·exact hs.kb_lt b hb
 ·rw [←H.out.1] at hl ⊢;exact record1_on w1.heap.size B y (hs.kb_same fun b hb=>hy b (by simp [hb])) (row_same R.out (hy w1.heap.size (by simp))) hB2 v xs ho hl
 ·rcases List.mem_cons.1 hb with rfl|hb
  ·exact hsz
  ·have hb':b∈s.bs:=by
    unfold Sl.kb at hb;split at hb
    ·simp at hb
    ·exact hb
   exact Nat.le_trans K0.out.size (H.out.2.2.1 b hb')
structure LsI(f:Int→List Int)(B:Nat)(y wr:World)(xs vec:List Int)(v:Value)(i:Nat):Prop where
 own:wr.ownsRow B 5 1 v (xs++(vec.take i).flatMap f).length ((xs++(vec.take i).flatMap f).map (Value.int .u8))
 bl:Below B y wr
theorem fm_take{f:Int→List Int}{vec:List Int}{i:Nat}{z:Int}(hz:vec[i]? = some z):(vec.take (i+1)).flatMap f=(vec.take i).flatMap f++f z:=by obtain ⟨hi,hx⟩:=List.getElem?_eq_some_iff.1 hz;rw [List.take_succ_eq_append_getElem hi,hx,List.flatMap_append,List.flatMap_cons,List.flatMap_nil,List.append_nil]
theorem numB_eq(z:Int):leB (u32 z) 4=[z % 256,z / 256 % 256,z / 65536 % 256,z / 16777216 % 256]:=le4_u32 z
theorem numbers1_on{t:Sl}(g:Nat)(B:Nat)(y:World)(ht:SlRd .i32 y t)(hr32:∀ z∈t.xs,-2147483648≤z∧z<2147483648)(hn:t.xs.length≤4096)(hk:∀ b∈t.kb,b<B)(hgB:g<B)(hg:Row y g #[t.v] 35)(hB:B≤y.heap.size)(v:Value)(xs:List Int)(ho:y.ownsRow B 5 1 v xs.length (xs.map (Value.int .u8)))(hl:xs.length+(uvB t.xs.length++vecB t.xs).length≤1000000) :
  Calls prog 194 #[v,.pointer (some ⟨g,0,none⟩)] y (GivesAt B (xs++(uvB t.xs.length++vecB t.xs)) y):=by
 obtain ⟨i0',hi0,hz0,hz1,hz2⟩:=info_parts infoU8;obtain ⟨n,hn'⟩:∃ n,t.xs.length=n:=⟨_,rfl⟩;obtain ⟨va,hva⟩:∃ n,t.a=n:=⟨_,rfl⟩;have c0:=hg.c 0 t.v;obtain ⟨s,rfl,rfl,hs,_,_⟩:=own_sl ho (by omega);have wn:IntKind.u64.wrap (n:Int)=(n:Int):=by rw [show IntKind.u64.wrap (n:Int)=(n:Int) % 18446744073709551616 from rfl];omega
 have PU:=Ξ (putuv_gen hs n (by omega) (by omega));have HG:=Ξ (Ψ hg hgB);have HB:=Ξ hB;have HL:=Ξ hl;have HN:Hid (t.xs.length=n∧n≤4096):=Ξ ⟨hn',by omega⟩;have HR:=Ξ hr32;have HC:Hid (∀ i z,(t.xs)[i]? = some z→∃ b o,va=some ⟨b,o,none⟩∧b<B∧y.cell? ⟨b,o+i,none⟩=some (.int .i32 z)):=Ξ fun i z hz=>by obtain ⟨b,o,h4,h5⟩:=ht.at_ hz;refine ⟨b,o,by rw [←hva];exact h4,hk b ?_,h5 i z hz⟩;unfold Sl.kb;rw [if_neg (fun e=>by rw [e] at hz;simp at hz)];simp [Sl.bs,h4]
 unfold Sl.v at PU c0 ⊢;rw [hn',hva] at c0;clear hg ho hB hs ht hk hn hn' hva hgB hl hr32;go_enter func194,ntmps194;go_wp2_with fail;refine PU.out.mono ?_;rintro _ w1 ⟨v1,rfl,ho1,hb1⟩;have RB:Hid (∀ z,Below B y z→z.cell? ⟨g,0,none⟩=some (.slice va n t.c)):=Ξ fun z hz=>by have h:=(row_same HG.out.1 (hz.block g HG.out.2)).cell 0;rw [h,←c0,HG.out.1.cell 0]
 have BY:=Ξ (hb1.mono HB.out);have c1:=RB.out w1 BY.out;have I0:Hid (LsI (fun v=>leB (u32 v) 4) B y w1 (s.xs++uvB n) t.xs v1 0):=Ξ ⟨by simpa using own_mono ho1 HB.out,BY.out⟩;clear ho1 hb1 PU c0;go_wp2_with fail;go_loopw [0,13] (fun v u wr=>∃ i:Nat,u=.int .i64 (i:Int)∧Hid (i≤n)∧Hid (LsI (fun v=>leB (u32 v) 4) B y wr (s.xs++uvB n) t.xs v i)) (fun _ u _=>n-(intOf u).toNat)
 case atStart=>exact ⟨0,rfl,Ξ (by omega),I0⟩
 case round=>
  clear I0;obtain ⟨i,rfl,HI,HV⟩:=hrel;have ej:IntKind.i64.wrap ((i:Int)+1)=((i+1:Nat):Int):=IntWalk.i64_in _ (by have:=HI.out;have:=HN.out;omega);by_cases hlt:i<n
  ·have e1:decide ((i:Int)<(n:Int))=true:=Γ (by omega);have e1b:decide (i<n)=true:=Γ hlt;have e1':(i:Int)<(n:Int):=(by omega);have HLT:=Ξ hlt;obtain ⟨z,hz⟩:∃ z,t.xs[i]? = some z:=⟨_,List.getElem?_eq_getElem (by rw [HN.out.1];exact hlt)⟩;obtain ⟨b,o,rfl,hbw,hcell⟩:=HC.out i z hz;have l3:wr.cell? ⟨b,o+i,none⟩=some (.int .i32 z):=by rw [HV.out.bl.cell (p:=⟨b,o+i,none⟩) hbw];exact hcell
   have HZ:=Ξ hz;have EV:=Ξ (fm_take (f:=fun v=>leB (u32 v) 4) hz);have ML:Hid ((s.xs++uvB n++(t.xs.take i).flatMap (fun v=>leB (u32 v) 4)).length≤1000000):=Ξ (by
    have h1:=uvB_len 2 n (by have:=HN.out;omega) (by omega);have h2:=fm_len (fun v=>leB (u32 v) 4) 4 (fun x=>leB_len _ _) (t.xs.take i);have h3:(t.xs.take i).length≤n:=by rw [List.length_take,HN.out.1];omega
    have:=HN.out;have h4:=HL.out;rw [List.length_append,vecB_len,HN.out.1] at h4;simp only [List.length_append];omega)
   obtain ⟨pre,hpre⟩:∃ pre,s.xs++uvB n++(t.xs.take i).flatMap (fun v=>leB (u32 v) 4)=pre:=⟨_,rfl⟩;have HP:Hid (wr.ownsRow B 5 1 u0 pre.length (pre.map (Value.int .u8))∧Below B y wr∧pre.length≤1000000):=Ξ ⟨by rw [←hpre];exact HV.out.own,HV.out.bl,by rw [←hpre];exact ML.out⟩;have HPR:=Ξ hpre;clear hz hbw hcell hlt hpre;go_wp2_with (at_builtin;refine wpList_append_at rfl (.tmp 17) (.tmp 29) 30 rfl B 5 i0' (.int .u8 0) 1 1 underlying30 hi0 hz0 hz1 hz2 rfl (by decide) u0 _ _ rfl (HP.out.1.alloc _) ⟨wr.heap.size,0,none⟩ 4 4 [.int .u8 (z % 256),.int .u8 (z / 256 % 256),.int .u8 (z / 65536 % 256),.int .u8 (z / 16777216 % 256)] rfl rfl (fun q u hq=>by rcases q with _|_|_|_|q<;>simp at hq<;>subst hq<;>simp [go_sem]) (by simp [Value.oneCell']) (by unfold maxLen;have:=HP.out;omega) (by have:=HP.out;omega) (by have:=HV.out.bl.size;have:=HB.out;simp;omega) ?_);intro v5 w5 hown5 hg5 hf5;have F2:Hid (LsI (fun v=>leB (u32 v) 4) B y w5 (s.xs++uvB n) t.xs v5 (i+1)):=Ξ ⟨by rw [EV.out,numB_eq,←List.append_assoc,HPR.out,List.length_append,List.map_append];exact hown5,HV.out.bl.trans ((((Ω _ wr).alloc _).grown hg5 (fun k hk=>.inl (by simp [hk]:k∈u0.ownBlock.toList))).toBelow (Nat.le_trans HB.out HV.out.bl.size) fun b hb=>(HV.out.own.lt b (by simpa using hb)).1)⟩;clear hown5 hg5 hf5;go_wp2_with fail;go_roundw;case rel=>exact ⟨i+1,by go_num,Ξ (by have:=HLT.out;omega),F2⟩
   case measure=>have:=HLT.out;simp [intOf];omega
  ·have e1:decide ((i:Int)<(n:Int))=false:=Λ (by omega);have e1b:decide (i<n)=false:=Λ hlt;have N:Hid (GivesAt B (s.xs++(uvB n++vecB t.xs)) y (.returned u0) wr):=Ξ (by have h:=HV.out.own;rw [List.take_of_length_le (by rw [HN.out.1];have:=HI.out;omega),List.append_assoc] at h;exact ⟨u0,rfl,h,HV.out.bl⟩)
   clear hlt;go_wp2_with fail;go_ret;rw [HN.out.1];exact N.out
theorem floats1_on{t:Sl}(g:Nat)(B:Nat)(y:World)(ht:SlRd .u64 y t)(hr64:∀ z∈t.xs,0≤z∧z<18446744073709551616)(hn:t.xs.length≤4096)(hk:∀ b∈t.kb,b<B)(hgB:g<B)(hg:Row y g #[t.v] 48)(hB:B≤y.heap.size)(v:Value)(xs:List Int)(ho:y.ownsRow B 5 1 v xs.length (xs.map (Value.int .u8)))(hl:xs.length+(uvB t.xs.length++flsB t.xs).length≤1000000) :
  Calls prog 195 #[v,.pointer (some ⟨g,0,none⟩)] y (GivesAt B (xs++(uvB t.xs.length++flsB t.xs)) y):=by
 obtain ⟨i0',hi0,hz0,hz1,hz2⟩:=info_parts infoU8;obtain ⟨n,hn'⟩:∃ n,t.xs.length=n:=⟨_,rfl⟩;obtain ⟨va,hva⟩:∃ n,t.a=n:=⟨_,rfl⟩;have c0:=hg.c 0 t.v;obtain ⟨s,rfl,rfl,hs,_,_⟩:=own_sl ho (by omega);have wn:IntKind.u64.wrap (n:Int)=(n:Int):=by rw [show IntKind.u64.wrap (n:Int)=(n:Int) % 18446744073709551616 from rfl];omega
 have PU:=Ξ (putuv_gen hs n (by omega) (by omega));have HG:=Ξ (Ψ hg hgB);have HB:=Ξ hB;have HL:=Ξ hl;have HN:Hid (t.xs.length=n∧n≤4096):=Ξ ⟨hn',by omega⟩;have HR:=Ξ hr64;have HC:Hid (∀ i z,(t.xs)[i]? = some z→∃ b o,va=some ⟨b,o,none⟩∧b<B∧y.cell? ⟨b,o+i,none⟩=some (.int .u64 z)):=Ξ fun i z hz=>by obtain ⟨b,o,h4,h5⟩:=ht.at_ hz;refine ⟨b,o,by rw [←hva];exact h4,hk b ?_,h5 i z hz⟩;unfold Sl.kb;rw [if_neg (fun e=>by rw [e] at hz;simp at hz)];simp [Sl.bs,h4]
 unfold Sl.v at PU c0 ⊢;rw [hn',hva] at c0;clear hg ho hB hs ht hk hn hn' hva hgB hl hr64;go_enter func195,ntmps195;go_wp2_with fail;refine PU.out.mono ?_;rintro _ w1 ⟨v1,rfl,ho1,hb1⟩;have RB:Hid (∀ z,Below B y z→z.cell? ⟨g,0,none⟩=some (.slice va n t.c)):=Ξ fun z hz=>by have h:=(row_same HG.out.1 (hz.block g HG.out.2)).cell 0;rw [h,←c0,HG.out.1.cell 0]
 have BY:=Ξ (hb1.mono HB.out);have c1:=RB.out w1 BY.out;have I0:Hid (LsI (fun v=>leB v 8) B y w1 (s.xs++uvB n) t.xs v1 0):=Ξ ⟨by simpa using own_mono ho1 HB.out,BY.out⟩;clear ho1 hb1 PU c0;go_wp2_with fail;go_loopw [0,14] (fun v u wr=>∃ i:Nat,u=.int .i64 (i:Int)∧Hid (i≤n)∧Hid (LsI (fun v=>leB v 8) B y wr (s.xs++uvB n) t.xs v i)) (fun _ u _=>n-(intOf u).toNat)
 case atStart=>exact ⟨0,rfl,Ξ (by omega),I0⟩
 case round=>
  clear I0;obtain ⟨i,rfl,HI,HV⟩:=hrel;rename World=>w3;have ej:IntKind.i64.wrap ((i:Int)+1)=((i+1:Nat):Int):=IntWalk.i64_in _ (by have:=HI.out;have:=HN.out;omega);by_cases hlt:i<n
  ·have e1:decide ((i:Int)<(n:Int))=true:=Γ (by omega);have e1b:decide (i<n)=true:=Γ hlt;have e1':(i:Int)<(n:Int):=(by omega);have HLT:=Ξ hlt;obtain ⟨z,hz⟩:∃ z,t.xs[i]? = some z:=⟨_,List.getElem?_eq_getElem (by rw [HN.out.1];exact hlt)⟩;obtain ⟨b,o,rfl,hbw,hcell⟩:=HC.out i z hz;have l3:w3.cell? ⟨b,o+i,none⟩=some (.int .u64 z):=by rw [HV.out.bl.cell (p:=⟨b,o+i,none⟩) hbw];exact hcell
   have HZ:=Ξ (HR.out z (List.mem_of_getElem? hz));have EV:=Ξ (fm_take (f:=fun v=>leB v 8) hz);have ML:Hid ((s.xs++uvB n++(t.xs.take i).flatMap (fun v=>leB v 8)).length≤1000000-8):=Ξ (by
    have h1:=uvB_len 2 n (by have:=HN.out;omega) (by omega);have h2:=fm_len (fun v=>leB v 8) 8 (fun x=>leB_len _ _) (t.xs.take i);have h3:(t.xs.take i).length≤n:=by rw [List.length_take,HN.out.1];omega
    have h3':(t.xs.take i).length≤i:=by rw [List.length_take];omega
    have:=HN.out;have h4:=HL.out;have:=HLT.out;rw [List.length_append,flsB_len,HN.out.1] at h4;simp only [List.length_append];omega)
   obtain ⟨pre,hpre⟩:∃ pre,s.xs++uvB n++(t.xs.take i).flatMap (fun v=>leB v 8)=pre:=⟨_,rfl⟩;have HP:Hid (w3.ownsRow B 5 1 u0 pre.length (pre.map (Value.int .u8))∧Below B y w3∧pre.length≤1000000-8):=Ξ ⟨by rw [←hpre];exact HV.out.own,HV.out.bl,by rw [←hpre];exact ML.out⟩;have HPR:=Ξ hpre;clear hz hbw hcell hlt hpre;go_wp2_with fail;go_loopw [0,18] (fun v u wr=>∃ j:Nat,j≤8∧u=.int .i64 (j:Int)∧Hid (wr.ownsRow B 5 1 v (pre.length+j) ((pre++leB z j).map (Value.int .u8))∧Below B y wr)) (fun _ u _=>8-(intOf u).toNat)
   case atStart=>exact ⟨0,by omega,rfl,Ξ ⟨by simpa [leB] using HP.out.1,HP.out.2.1⟩⟩
   case round=>
    obtain ⟨j,hj,rfl,HO⟩:=hrel;have j0:(0:Int)≤(j:Int):=Int.natCast_nonneg _;by_cases hlt:j<8
    ·have d1:decide ((j:Int)<8)=true:=Γ (by omega);have j2:(j:Int)<8:=(by omega);go_wp2_with (at_builtin;refine wpList_append_at rfl (.tmp 21) (.tmp 27) 30 rfl B 5 i0' (.int .u8 0) 1 1 underlying30 hi0 hz0 hz1 hz2 rfl (by decide) u0 (pre.length+j) _ rfl (HO.out.1.alloc _) ⟨wr.heap.size,0,none⟩ 1 1 [.int .u8 (leAt z j)] rfl rfl (fun q u hq=>by rcases q with _|q<;>simp at hq<;>subst hq<;>simp [go_sem,leAt]) (by simp [Value.oneCell']) (by unfold maxLen;have:=HP.out;omega) (by have:=HP.out;omega) (by have:=HO.out.2.size;have:=HB.out;simp;omega) ?_);intro v5 w5 hown5 hg5 hf5;have F2:Hid (w5.ownsRow B 5 1 v5 (pre.length+(j+1)) ((pre++leB z (j+1)).map (Value.int .u8))∧Below B y w5):=Ξ ⟨by rw [leB_succ,←List.append_assoc,List.map_append,←Nat.add_assoc];first|exact hown5|simpa using hown5,HO.out.2.trans ((((Ω _ wr).alloc _).grown hg5 (fun k hk=>.inl (by simp [hk]:k∈u0.ownBlock.toList))).toBelow (Nat.le_trans HB.out HO.out.2.size) fun b hb=>(HO.out.1.lt b (by simpa using hb)).1)⟩;clear hown5 hg5 hf5;go_wp2_with fail;go_roundw;case rel=>exact ⟨j+1,by omega,by go_num,F2⟩
     case measure=>simp [intOf];omega
    ·have d1:decide ((j:Int)<8)=false:=Λ (by omega);have F2:Hid (LsI (fun v=>leB v 8) B y wr (s.xs++uvB n) t.xs u0 (i+1)):=Ξ (by
      have h:=HO.out;rw [show j=8 by omega] at h;have e:s.xs++uvB n++(t.xs.take (i+1)).flatMap (fun v=>leB v 8)=pre++leB z 8:=by rw [EV.out,←List.append_assoc,HPR.out]
      exact ⟨by rw [e,List.length_append,leB_len];exact h.1,h.2⟩)
     clear hlt;go_wp2_with fail;go_roundw;case rel=>exact ⟨i+1,by go_num,Ξ (by have:=HLT.out;omega),F2⟩
     case measure=>have:=HLT.out;simp [intOf];omega
  ·have e1:decide ((i:Int)<(n:Int))=false:=Λ (by omega);have e1b:decide (i<n)=false:=Λ hlt;have N:Hid (GivesAt B (s.xs++(uvB n++flsB t.xs)) y (.returned u0) w3):=Ξ (by have h:=HV.out.own;rw [List.take_of_length_le (by rw [HN.out.1];have:=HI.out;omega),List.append_assoc] at h;exact ⟨u0,rfl,h,HV.out.bl⟩)
   clear hlt;go_wp2_with fail;go_ret;rw [HN.out.1];exact N.out
theorem numbers_on{t:Sl}{w:World}(ht:SlRd .i32 w t)(hr:∀ z∈t.xs,-2147483648≤z∧z<2147483648)(hn:t.xs.length≤4096):Calls prog 184 #[t.v] w fun e w'=>∃ fv K,e=.returned fv∧Writes w' fv (uvB t.xs.length++vecB t.xs) K∧(∀ b∈K,w.heap.size≤b∨b∈t.kb)∧Below w.heap.size w w':=by
 have hmf:=hmf_;have R:=Ξ (Φ w #[t.v] 35);have H:=Ξ (ht.only ((Ω [] w).alloc (.cells #[t.v] 35)) (by simp));have HR:=Ξ (Ψ hr hn);clear ht hr hn;unfold Sl.v at R H ⊢;go_enter func184,ntmps184;go_wp2_with fail;go_ret;refine ⟨_,w.heap.size :: t.kb,rfl,⟨194,_,rfl,enters_of func194 (by kernel_rfl) rfl,fun b hb=>?_,fun B y hy hB hB2 v xs ho hl=>?_⟩,fun b hb=>?_,(Δ _ _).alloc (Θ _) _⟩
 ·rcases List.mem_cons.1 hb with rfl|hb
  ·simp
  ·exact H.out.kb_lt b hb
 ·exact numbers1_on w.heap.size B y (H.out.kb_same fun b hb=>hy b (by simp [hb])) HR.out.1 HR.out.2 (fun b hb=>hB b (by simp [hb])) (hB _ (by simp)) (row_same R.out (hy w.heap.size (by simp))) hB2 v xs ho hl
 ·rcases List.mem_cons.1 hb with rfl|hb
  ·exact .inl (Θ _)
  ·exact .inr hb
theorem floats_on{t:Sl}{w:World}(ht:SlRd .u64 w t)(hr:∀ z∈t.xs,0≤z∧z<18446744073709551616)(hn:t.xs.length≤4096):Calls prog 185 #[t.v] w fun e w'=>∃ fv K,e=.returned fv∧Writes w' fv (uvB t.xs.length++flsB t.xs) K∧(∀ b∈K,w.heap.size≤b∨b∈t.kb)∧Below w.heap.size w w':=by
 have hmf:=hmf_;have R:=Ξ (Φ w #[t.v] 48);have H:=Ξ (ht.only ((Ω [] w).alloc (.cells #[t.v] 48)) (by simp));have HR:=Ξ (Ψ hr hn);clear ht hr hn;unfold Sl.v at R H ⊢;go_enter func185,ntmps185;go_wp2_with fail;go_ret;refine ⟨_,w.heap.size :: t.kb,rfl,⟨195,_,rfl,enters_of func195 (by kernel_rfl) rfl,fun b hb=>?_,fun B y hy hB hB2 v xs ho hl=>?_⟩,fun b hb=>?_,(Δ _ _).alloc (Θ _) _⟩
 ·rcases List.mem_cons.1 hb with rfl|hb
  ·simp
  ·exact H.out.kb_lt b hb
 ·exact floats1_on w.heap.size B y (H.out.kb_same fun b hb=>hy b (by simp [hb])) HR.out.1 HR.out.2 (fun b hb=>hB b (by simp [hb])) (hB _ (by simp)) (row_same R.out (hy w.heap.size (by simp))) hB2 v xs ho hl
 ·rcases List.mem_cons.1 hb with rfl|hb
  ·exact .inl (Θ _)
  ·exact .inr hb
theorem mas_pre{w:World}{x:Rq}(hx:x.At w):Row (w.alloc (.cells x.lit tRq)) w.heap.size x.lit tRq∧Below w.heap.size w (w.alloc (.cells x.lit tRq))∧∀ y,Below (w.alloc (.cells x.lit tRq)).heap.size (w.alloc (.cells x.lit tRq)) y→Calls prog 193 #[.agg x.lit,.agg x.lit] y fun e w'=>e=.returned (.bool true)∧Below (w.alloc (.cells x.lit tRq)).heap.size (w.alloc (.cells x.lit tRq)) w':=by have ba:Below w.heap.size w (w.alloc (.cells x.lit tRq)):=(Δ _ w).alloc (Θ _) _;refine ⟨Φ w x.lit tRq,ba,fun y hy=>?_⟩;have h:=hx.below (ba.trans (hy.mono ba.size));refine (same_on h h).mono fun e w' q=>⟨?_,hy.trans (q.2.mono hy.size)⟩;rw [q.1];simp [Rq.alike]
theorem mayask_key(k:Int)(hk:k=3∨k=4)(key:Int)(w:World)  : Calls prog 183 #[.agg #[.int .i64 k,.int .u64 0,.slice none 0 0,.slice none 0 0,.int .u64 key,.int .u64 0,.int .i64 0,.slice none 0 0,.slice none 0 0,.int .i64 0]] w fun e w'=>e=.returned (.bool (true))∧Below w.heap.size w w':=by
 obtain ⟨r0,ba,sm⟩:=mas_pre (w:=w) (x:=⟨k,⟨0,Sl.no,Sl.no⟩,key,0,0,Sl.no,Sl.no,0⟩) ⟨⟨SlRd.no _ _,SlRd.no _ _,IsBy.nil⟩,SlRd.no _ _,SlRd.no _ _⟩;have R0:=Ξ r0;have BA:=Ξ ba;have SM:=Ξ sm;clear r0 ba sm;rcases hk with rfl|rfl;all_goals
  go_enter func183,ntmps183;go_wp2_with fail;refine (SM.out _ ?hb).mono ?_;case hb=>repeat (first|exact Δ _ _|exact HBI.out|refine Below.setCell ?_ (by simp) _|refine Below.alloc ?_ (by simp) _|refine Below.drew ?_)
  rintro _ w2 ⟨rfl,hb2⟩;have R2:=R0.out.only ((Ω [] _).below hb2) (by simp);have l6:=R2.c 6 (.int .i64 0);have l7:=R2.c 7 (.slice none 0 0);have l8:=R2.c 8 (.slice none 0 0);have l9:=R2.c 9 (.int .i64 0);have B2:=Ξ (BA.out.trans (hb2.mono BA.out.size));clear hb2 R2 SM R0 BA;go_wp2_with fail;go_ret;exact ⟨rfl,B2.out⟩
theorem mayask_range(key hi n:Int)(w:World)(n0:0≤n):Calls prog 183 #[.agg #[.int .i64 5,.int .u64 0,.slice none 0 0,.slice none 0 0,.int .u64 key,.int .u64 hi,.int .i64 n,.slice none 0 0,.slice none 0 0,.int .i64 0]] w fun e w'=>e=.returned (.bool (decide (n≤50)))∧Below w.heap.size w w':=by
 obtain ⟨r0,ba,sm⟩:=mas_pre (w:=w) (x:=⟨5,⟨0,Sl.no,Sl.no⟩,key,hi,n,Sl.no,Sl.no,0⟩) ⟨⟨SlRd.no _ _,SlRd.no _ _,IsBy.nil⟩,SlRd.no _ _,SlRd.no _ _⟩;have R0:=Ξ r0;have BA:=Ξ ba;have SM:=Ξ sm;clear r0 ba sm;have dn0:decide (0≤n)=true:=Γ n0;clear n0;generalize e0:decide (n≤50)=b0;cases b0;all_goals
  go_enter func183,ntmps183;go_upto_region 16 with fail;go_region
  go_wp2_with fail;refine (SM.out _ ?hb).mono ?_;case hb=>repeat (first|exact Δ _ _|exact HBI.out|refine Below.setCell ?_ (by simp) _|refine Below.alloc ?_ (by simp) _|refine Below.drew ?_)
  rintro _ w2 ⟨rfl,hb2⟩;have R2:=R0.out.only ((Ω [] _).below hb2) (by simp);have l6:=R2.c 6 (.int .i64 n);have l7:=R2.c 7 (.slice none 0 0);have l8:=R2.c 8 (.slice none 0 0);have l9:=R2.c 9 (.int .i64 0);have B2:=Ξ (BA.out.trans (hb2.mono BA.out.size));clear hb2 R2 SM R0 BA;go_wp2_with fail;go_ret;exact ⟨rfl,B2.out⟩
theorem mayask_knn(n:Int)(q:Sl)(w:World)(n0:0≤n)(hq:SlRd .i32 w q)(q4:q.xs.length≤4096):Calls prog 183 #[.agg #[.int .i64 6,.int .u64 0,.slice none 0 0,.slice none 0 0,.int .u64 0,.int .u64 0,.int .i64 n,.slice q.a q.xs.length q.c,.slice none 0 0,.int .i64 0]] w fun e w'=>e=.returned (.bool (decide (n≤50)))∧Below w.heap.size w w':=by
 obtain ⟨r0,ba,sm⟩:=mas_pre (w:=w) (x:=⟨6,⟨0,Sl.no,Sl.no⟩,0,0,n,q,Sl.no,0⟩) ⟨⟨SlRd.no _ _,SlRd.no _ _,IsBy.nil⟩,hq,SlRd.no _ _⟩;have R0:=Ξ r0;have BA:=Ξ ba;have SM:=Ξ sm;clear r0 ba sm;have dn0:decide (0≤n)=true:=Γ n0;have dq:decide ((q.xs.length:Int)≤4096)=true:=Γ (by omega);have dq':decide (q.xs.length≤4096)=true:=Γ q4;clear n0 hq q4;generalize e0:decide (n≤50)=b0;cases b0;all_goals
  go_enter func183,ntmps183;go_upto_region 18 with fail;go_region
  go_wp2_with fail;refine (SM.out _ ?hb).mono ?_;case hb=>repeat (first|exact Δ _ _|exact HBI.out|refine Below.setCell ?_ (by simp) _|refine Below.alloc ?_ (by simp) _|refine Below.drew ?_)
  rintro _ w2 ⟨rfl,hb2⟩;have R2:=R0.out.only ((Ω [] _).below hb2) (by simp);have l6:=R2.c 6 (.int .i64 n);have l7:=R2.c 7 (.slice q.a q.xs.length q.c);have l8:=R2.c 8 (.slice none 0 0);have l9:=R2.c 9 (.int .i64 0);have B2:=Ξ (BA.out.trans (hb2.mono BA.out.size));clear hb2 R2 SM R0 BA;go_wp2_with fail;go_ret;exact ⟨rfl,B2.out⟩
theorem mayask_putf(key sc:Int)(tag fl:Sl)(w:World)(ht:SlRd .u8 w tag)(hb:IsBy tag.xs)(hf:SlRd .u64 w fl)(f4:fl.xs.length≤4096)(t1:tag.xs.length≤1024):Calls prog 183 #[.agg #[.int .i64 10,.int .u64 key,.slice none 0 0,.slice tag.a tag.xs.length tag.c,.int .u64 0,.int .u64 0,.int .i64 0,.slice none 0 0,.slice fl.a fl.xs.length fl.c,.int .i64 sc]] w fun e w'=>e=.returned (.bool ((decide (-64≤sc) && decide (sc≤64))))∧Below w.heap.size w w':=by
 obtain ⟨r0,ba,sm⟩:=mas_pre (w:=w) (x:=⟨10,⟨key,Sl.no,tag⟩,0,0,0,Sl.no,fl,sc⟩) ⟨⟨SlRd.no _ _,ht,hb⟩,SlRd.no _ _,hf⟩;have R0:=Ξ r0;have BA:=Ξ ba;have SM:=Ξ sm;clear r0 ba sm;have dfl:decide ((fl.xs.length:Int)≤4096)=true:=Γ (by omega);have dfl':decide (fl.xs.length≤4096)=true:=Γ f4;have dt:decide ((tag.xs.length:Int)≤1024)=true:=Γ (by omega);have dt':decide (tag.xs.length≤1024)=true:=Γ t1;clear ht hb hf f4 t1;generalize e0:decide (-64≤sc)=b0;generalize e1:decide (sc≤64)=b1;cases b0<;>cases b1;all_goals
  go_enter func183,ntmps183;go_upto_region 21 with fail;go_region
  go_wp2_with fail;refine (SM.out _ ?hb).mono ?_;case hb=>repeat (first|exact Δ _ _|exact HBI.out|refine Below.setCell ?_ (by simp) _|refine Below.alloc ?_ (by simp) _|refine Below.drew ?_)
  rintro _ w2 ⟨rfl,hb2⟩;have R2:=R0.out.only ((Ω [] _).below hb2) (by simp);have l6:=R2.c 6 (.int .i64 0);have l7:=R2.c 7 (.slice none 0 0);have l8:=R2.c 8 (.slice fl.a fl.xs.length fl.c);have l9:=R2.c 9 (.int .i64 sc);have B2:=Ξ (BA.out.trans (hb2.mono BA.out.size));clear hb2 R2 SM R0 BA;go_wp2_with fail;go_ret;exact ⟨rfl,B2.out⟩
theorem mayask_knnf(n sc:Int)(fl:Sl)(w:World)(n0:0≤n)(hf:SlRd .u64 w fl)(f4:fl.xs.length≤4096):Calls prog 183 #[.agg #[.int .i64 11,.int .u64 0,.slice none 0 0,.slice none 0 0,.int .u64 0,.int .u64 0,.int .i64 n,.slice none 0 0,.slice fl.a fl.xs.length fl.c,.int .i64 sc]] w fun e w'=>e=.returned (.bool ((decide (n≤50) && (decide (-64≤sc) && decide (sc≤64)))))∧Below w.heap.size w w':=by
 obtain ⟨r0,ba,sm⟩:=mas_pre (w:=w) (x:=⟨11,⟨0,Sl.no,Sl.no⟩,0,0,n,Sl.no,fl,sc⟩) ⟨⟨SlRd.no _ _,SlRd.no _ _,IsBy.nil⟩,SlRd.no _ _,hf⟩;have R0:=Ξ r0;have BA:=Ξ ba;have SM:=Ξ sm;clear r0 ba sm;have dn0:decide (0≤n)=true:=Γ n0;have dfl:decide ((fl.xs.length:Int)≤4096)=true:=Γ (by omega);have dfl':decide (fl.xs.length≤4096)=true:=Γ f4;clear n0 hf f4;generalize e0:decide (n≤50)=b0;generalize e1:decide (-64≤sc)=b1;generalize e2:decide (sc≤64)=b2;cases b0<;>cases b1<;>cases b2;all_goals
  go_enter func183,ntmps183;go_upto_region 24 with fail;go_region
  go_wp2_with fail;refine (SM.out _ ?hb).mono ?_;case hb=>repeat (first|exact Δ _ _|exact HBI.out|refine Below.setCell ?_ (by simp) _|refine Below.alloc ?_ (by simp) _|refine Below.drew ?_)
  rintro _ w2 ⟨rfl,hb2⟩;have R2:=R0.out.only ((Ω [] _).below hb2) (by simp);have l6:=R2.c 6 (.int .i64 n);have l7:=R2.c 7 (.slice none 0 0);have l8:=R2.c 8 (.slice fl.a fl.xs.length fl.c);have l9:=R2.c 9 (.int .i64 sc);have B2:=Ξ (BA.out.trans (hb2.mono BA.out.size));clear hb2 R2 SM R0 BA;go_wp2_with fail;go_ret;exact ⟨rfl,B2.out⟩
def okE(v t:Nat):Int:=if v=0∨4096<v then 9 else if 1024<t then 3 else 0
theorem item_zero{key:Int}{vec tag:Sl}(h1:vec.xs.length=0)(w:World) :
  Calls prog 112 #[.agg #[.int .u64 key,.slice vec.a vec.xs.length vec.c,.slice tag.a tag.xs.length tag.c]] w fun e w'=>e=.returned (.int .i64 9)∧Below w.heap.size w w':=by
 rw [h1];go_enter func112,ntmps112;go_wp2_with fail;go_ret;exact ⟨rfl,(Δ _ _).alloc (Θ _) _⟩
theorem mayask_put(key:Int)(vec tag:Sl)(w:World)(hv:SlRd .i32 w vec)(ht:SlRd .u8 w tag)(hb:IsBy tag.xs)(h1:(0<vec.xs.length∧vec.xs.length≤4096∧tag.xs.length≤1024)∨vec.xs.length=0):Calls prog 183 #[.agg #[.int .i64 2,.int .u64 key,.slice vec.a vec.xs.length vec.c,.slice tag.a tag.xs.length tag.c,.int .u64 0,.int .u64 0,.int .i64 0,.slice none 0 0,.slice none 0 0,.int .i64 0]] w fun e w'=>e=.returned (.bool (decide (okE vec.xs.length tag.xs.length=0)))∧Below w.heap.size w w':=by
 obtain ⟨r0,ba,sm⟩:=mas_pre (w:=w) (x:=⟨2,⟨key,vec,tag⟩,0,0,0,Sl.no,Sl.no,0⟩) ⟨⟨hv,ht,hb⟩,SlRd.no _ _,SlRd.no _ _⟩;have R0:=Ξ r0;have BA:=Ξ ba;have SM:=Ξ sm;clear r0 ba sm;have RAB:Hid (Row ((w.alloc (.cells #[.int .i64 2,.int .u64 key,.slice vec.a vec.xs.length vec.c,.slice tag.a tag.xs.length tag.c,.int .u64 0,.int .u64 0,.int .i64 0,.slice none 0 0,.slice none 0 0,.int .i64 0] tRq)).alloc (.cells #[.int .i64 2,.int .u64 key,.slice vec.a vec.xs.length vec.c,.slice tag.a tag.xs.length tag.c,.int .u64 0,.int .u64 0,.int .i64 0,.slice none 0 0,.slice none 0 0,.int .i64 0] tRq)) w.heap.size #[.int .i64 2,.int .u64 key,.slice vec.a vec.xs.length vec.c,.slice tag.a tag.xs.length tag.c,.int .u64 0,.int .u64 0,.int .i64 0,.slice none 0 0,.slice none 0 0,.int .i64 0] tRq∧Row ((w.alloc (.cells #[.int .i64 2,.int .u64 key,.slice vec.a vec.xs.length vec.c,.slice tag.a tag.xs.length tag.c,.int .u64 0,.int .u64 0,.int .i64 0,.slice none 0 0,.slice none 0 0,.int .i64 0] tRq)).alloc (.cells #[.int .i64 2,.int .u64 key,.slice vec.a vec.xs.length vec.c,.slice tag.a tag.xs.length tag.c,.int .u64 0,.int .u64 0,.int .i64 0,.slice none 0 0,.slice none 0 0,.int .i64 0] tRq)) (w.heap.size+1) #[.int .i64 2,.int .u64 key,.slice vec.a vec.xs.length vec.c,.slice tag.a tag.xs.length tag.c,.int .u64 0,.int .u64 0,.int .i64 0,.slice none 0 0,.slice none 0 0,.int .i64 0] tRq∧Below (w.alloc (.cells #[.int .i64 2,.int .u64 key,.slice vec.a vec.xs.length vec.c,.slice tag.a tag.xs.length tag.c,.int .u64 0,.int .u64 0,.int .i64 0,.slice none 0 0,.slice none 0 0,.int .i64 0] tRq)).heap.size (w.alloc (.cells #[.int .i64 2,.int .u64 key,.slice vec.a vec.xs.length vec.c,.slice tag.a tag.xs.length tag.c,.int .u64 0,.int .u64 0,.int .i64 0,.slice none 0 0,.slice none 0 0,.int .i64 0] tRq)) ((w.alloc (.cells #[.int .i64 2,.int .u64 key,.slice vec.a vec.xs.length vec.c,.slice tag.a tag.xs.length tag.c,.int .u64 0,.int .u64 0,.int .i64 0,.slice none 0 0,.slice none 0 0,.int .i64 0] tRq)).alloc (.cells #[.int .i64 2,.int .u64 key,.slice vec.a vec.xs.length vec.c,.slice tag.a tag.xs.length tag.c,.int .u64 0,.int .u64 0,.int .i64 0,.slice none 0 0,.slice none 0 0,.int .i64 0] tRq))):=Ξ ⟨R0.out.only ((Ω [] _).alloc _) (by simp),by
  have h:=Φ (w.alloc (.cells #[.int .i64 2,.int .u64 key,.slice vec.a vec.xs.length vec.c,.slice tag.a tag.xs.length tag.c,.int .u64 0,.int .u64 0,.int .i64 0,.slice none 0 0,.slice none 0 0,.int .i64 0] tRq)) #[.int .i64 2,.int .u64 key,.slice vec.a vec.xs.length vec.c,.slice tag.a tag.xs.length tag.c,.int .u64 0,.int .u64 0,.int .i64 0,.slice none 0 0,.slice none 0 0,.int .i64 0] tRq
  rwa [World.size_alloc] at h,(Δ _ _).alloc (Θ _) _⟩
 clear hv ht hb;rcases h1 with h1|h1
 ·have IM:Hid (∀ y:World,Calls prog 112 #[.agg #[.int .u64 key,.slice vec.a vec.xs.length vec.c,.slice tag.a tag.xs.length tag.c]] y fun e w'=>e=.returned (.int .i64 0)∧Below y.heap.size y w'):=Ξ fun y=>item_ok h1.1 h1.2.1 h1.2.2;rw [show decide (okE vec.xs.length tag.xs.length=0)=true by unfold okE;rw [if_neg (by omega),if_neg (by omega)];rfl];clear h1;go_enter func183,ntmps183;go_wp2_with fail;refine (IM.out _).mono ?_;rintro _ wi ⟨rfl,hbi⟩;have BI:=Ξ (RAB.out.2.2.trans (hbi.mono RAB.out.2.2.size));have Ri:=Ξ (RAB.out.1.only ((Ω [] _).below hbi) (by simp));have Rj:=Ξ (RAB.out.2.1.only ((Ω [] _).below hbi) (by simp));obtain ⟨i0,i1,i2,i3,i4,i5,i6,i7,i8,i9⟩:=Ri.out.cs10;obtain ⟨j0,j1,j2,j3,j4,j5,j6,j7,j8,j9⟩:=Rj.out.cs10;clear hbi RAB;go_wp2_with fail;refine (SM.out _ BI.out).mono ?_;rintro _ w2 ⟨rfl,hb2⟩;have R2:=R0.out.only ((Ω [] _).below hb2) (by simp);have l6:=R2.c 6 (.int .i64 0);have l7:=R2.c 7 (.slice none 0 0);have l8:=R2.c 8 (.slice none 0 0);have l9:=R2.c 9 (.int .i64 0);clear i0 j0 i1 j1 i2 j2 i3 j3 i4 j4 i5 j5 i6 j6 i7 j7 i8 j8 i9 j9;have B2:=Ξ (BA.out.trans (hb2.mono BA.out.size));clear hb2 R2 SM R0 BA BI;go_wp2_with fail;go_ret;exact ⟨rfl,B2.out⟩
 ·have IM:Hid (∀ y:World,Calls prog 112 #[.agg #[.int .u64 key,.slice vec.a vec.xs.length vec.c,.slice tag.a tag.xs.length tag.c]] y fun e w'=>e=.returned (.int .i64 9)∧Below y.heap.size y w'):=Ξ fun y=>item_zero h1 y;rw [show decide (okE vec.xs.length tag.xs.length=0)=false by unfold okE;rw [if_pos (by omega)];rfl];clear h1;go_enter func183,ntmps183;go_wp2_with fail;refine (IM.out _).mono ?_;rintro _ wi ⟨rfl,hbi⟩;have BI:=Ξ (RAB.out.2.2.trans (hbi.mono RAB.out.2.2.size));have Ri:=Ξ (RAB.out.1.only ((Ω [] _).below hbi) (by simp));have Rj:=Ξ (RAB.out.2.1.only ((Ω [] _).below hbi) (by simp));have B2:=Ξ (BA.out.trans (BI.out.mono BA.out.size));clear hbi RAB SM R0 BA BI;go_wp2_with fail;go_ret;exact ⟨rfl,B2.out⟩
def Ws(w:World)(g:Nat)(fs:List (Value×List Int)):Prop:=∀ p∈fs,∃ K,Writes w p.1 p.2 K∧∀ b∈K,b≠g
theorem Ws.nil(w:World)(g:Nat):Ws w g []:=fun p hp=>by simp at hp
theorem Ws.below{w w':World}{g:Nat}{fs:List (Value×List Int)}(h:Ws w g fs)(k:Below w.heap.size w w'):Ws w' g fs:=fun p hp=>by obtain ⟨K,h1,h2⟩:=h p hp;exact ⟨K,h1.below k,h2⟩
theorem Ws.snoc{w w':World}{g:Nat}{fs:List (Value×List Int)}{fv:Value}{ys:List Int}{K:List Nat}(h:Ws w g fs)(k:Below w.heap.size w w')(hw:Writes w' fv ys K)(hk:∀ b∈K,b≠g):Ws w' g (fs++[(fv,ys)]):=fun p hp=>by
 rcases List.mem_append.1 hp with hp|hp
 ·exact h.below k p hp
 ·simp at hp;subst hp;exact ⟨K,hw,hk⟩
theorem Ws.all{w w':World}{g:Nat}{fs:List (Value×List Int)}(h:Ws w g fs)(k:Only [g] w w'):∀ p∈fs,∃ K,Writes w' p.1 p.2 K:=fun p hp=>by obtain ⟨K,h1,h2⟩:=h p hp;exact ⟨K,h1.only k (fun b hb=>by simpa using h2 b hb)⟩
theorem u81w_on(n:Int)(g:Nat)(B:Nat)(y:World)(hg:Row y g #[.int .i64 n] 3)(hgB:g<B)(hB:B≤y.heap.size)(v:Value)(xs:List Int)(ho:y.ownsRow B 5 1 v xs.length (xs.map (Value.int .u8)))(hl:xs.length+1≤1000000) :
  Calls prog 118 #[v,.pointer (some ⟨g,0,none⟩)] y (GivesAt B (xs++[n % 256]) y):=by
 obtain ⟨i0',hi0,hz0,hz1,hz2⟩:=info_parts infoU8;have c0:=hg.c 0 (.int .i64 n);have wn:IntKind.u8.wrap n=n % 256:=rfl;have HO:=Ξ ho;have HL:=Ξ hl;have HB:=Ξ hB;have HGB:=Ξ hgB;generalize n % 256=m at *;clear hg ho hl hB hgB;go_enter func118,ntmps118;go_wp2_with (at_builtin;refine wpList_append_src rfl (.tmp 4) (.tmp 7) 30 rfl B 5 i0' (.int .u8 0) 1 1 underlying30 hi0 hz0 hz1 hz2 rfl (by decide) _ xs.length (xs.map (Value.int .u8)) rfl ?s0 _ 1 [.int .u8 m] rfl ?s1 ?s2 ?s3 ?s4 ?s5 ?s6);case s0=>exact HO.out.alloc _
 case s1=>exact src_one y m
 case s2=>simp [Value.oneCell']
 case s3=>have:=HL.out;unfold maxLen;omega
 case s4=>have:=HL.out;omega
 case s5=>have:=HB.out;simp;omega
 case s6=>intro v1 w1 hown1 hg1;have b1:Below B y w1:=((Δ _ _).alloc HB.out _).grown hg1 (by have:=HB.out;simp;omega) (fun k hk=>(HO.out.lt k hk).1);have O1:Hid (GivesAt B (xs++[m]) y (.returned v1) w1):=Ξ ⟨v1,rfl,by simpa using hown1,b1⟩;clear hown1 hg1 b1;go_wp2_with fail;go_ret;exact O1.out
def WrTo(ys:List Int)(L:List Nat)(w:World)(e:Ending)(w':World):Prop:=∃ f cap K,e=.returned (.func (.func f) #[] cap)∧Writes w' (.func (.func f) #[] cap) ys K∧(∀ b∈K,w.heap.size≤b∨b∈L)∧Below w.heap.size w w'
theorem wrTo_of{ys:List Int}{L:List Nat}{w:World}{e:Ending}{w':World}(h:∃ fv K,e=.returned fv∧Writes w' fv ys K∧(∀ b∈K,w.heap.size≤b∨b∈L)∧Below w.heap.size w w'):WrTo ys L w e w':=by obtain ⟨fv,K,rfl,hw,hk,hb⟩:=h;obtain ⟨f,cap,rfl⟩:=hw.shape;exact ⟨f,cap,K,rfl,hw,hk,hb⟩
theorem wrTo_of0{ys:List Int}{w:World}{e:Ending}{w':World}(h:∃ fv K,e=.returned fv∧Writes w' fv ys K∧(∀ b∈K,w.heap.size≤b)∧Below w.heap.size w w'):WrTo ys [] w e w':=by obtain ⟨fv,K,rfl,hw,hk,hb⟩:=h;exact wrTo_of ⟨fv,K,rfl,hw,fun b hb=>.inl (hk b hb),hb⟩
theorem u8w_on(n:Int)(w:World):Calls prog 67 #[.int .i64 n] w (WrTo [n % 256] [] w):=by have hmf:=hmf_;have R:=Ξ (Φ w #[.int .i64 n] 3);go_enter func67,ntmps67;go_wp2_with fail;go_ret;refine wrTo_of0 ⟨_,[w.heap.size],rfl,⟨118,_,rfl,enters_of func118 (by kernel_rfl) rfl,by simp,fun B y hy hB hB2 v xs ho hl=>?_⟩,by simp,(Δ _ _).alloc (Θ _) _⟩;exact u81w_on n w.heap.size B y (row_same R.out (hy w.heap.size (by simp))) (hB _ (by simp)) hB2 v xs ho hl
theorem u64w_on(n:Int)(h0:0≤n)(h1:n<18446744073709551616)(w:World):Calls prog 73 #[.int .u64 n] w (WrTo (leB n 8) [] w):=(u64_on n h0 h1 w).mono fun _ _ h=>wrTo_of0 h
theorem textw_on{t:Sl}{w:World}(ht:SlRd .u8 w t):Calls prog 72 #[t.v] w (WrTo (textB t.xs) t.kb w):=(text_on ht).mono fun _ _ h=>wrTo_of h
theorem numbersw_on{t:Sl}{w:World}(ht:SlRd .i32 w t)(hr:∀ z∈t.xs,-2147483648≤z∧z<2147483648)(hn:t.xs.length≤4096):Calls prog 184 #[t.v] w (WrTo (uvB t.xs.length++vecB t.xs) t.kb w):=(numbers_on ht hr hn).mono fun _ _ h=>wrTo_of h
theorem floatsw_on{t:Sl}{w:World}(ht:SlRd .u64 w t)(hr:∀ z∈t.xs,0≤z∧z<18446744073709551616)(hn:t.xs.length≤4096):Calls prog 185 #[t.v] w (WrTo (uvB t.xs.length++flsB t.xs) t.kb w):=(floats_on ht hr hn).mono fun _ _ h=>wrTo_of h
theorem wr_append(w:World)(g:Nat)(v:Value)(n:Nat)(xs fs:List Value)(ty:TypeId)(hown:w.ownsRow g 154 1 v n xs)(h1:∀ u∈fs,u.oneCell'=true)(hg:g<w.heap.size)(m:Nat)(hm:fs.length=m)(h100:n+m≤1000) :
  ∃ v' w',(Builtin.append_ #[156,156] ty #[v,.slice (some ⟨w.heap.size,0,none⟩) m m]).run prog (w.alloc (.cells fs.toArray 154))=.ok v' w'∧w'.ownsRow g 154 1 v' (n+m) (xs++fs)∧Only v.ownBlock.toList w w'∧w.heap.size<w'.heap.size:=by
 obtain ⟨i0',hi0,hz0,hz1,hz2⟩:=info_parts infoWr;obtain ⟨v',w',h1,h2,h3,_⟩:=append_own_at (P:=prog) (w.alloc (.cells fs.toArray 154)) g 156 ty 154 i0' .nilFunc 1 8 underlying156 hi0 hz0 hz1 hz2 rfl (by decide) v n xs (hown.alloc _) ⟨w.heap.size,0,none⟩ m m fs (by simp [hm]) (fun j u hj=>by rw [add_plain,Nat.zero_add,(Φ w fs.toArray 154).cell j];simpa using hj) h1 (by unfold maxLen;omega) (by omega) (by simp;omega)
 have hO:Only v.ownBlock.toList w w':=((Ω _ w).alloc _).grown h3 (fun k hk=>.inl (by simp [hk]));exact ⟨v',w',h1,h2,hO,Nat.lt_of_lt_of_le (by simp) h3.size⟩
theorem u8k_on(n:Int)(h0:0≤n)(h1:n<256)(w:World):Calls prog 67 #[.int .i64 n] w (WrTo [n] [] w):=by
 have h:=u8w_on n w
 rwa [show n % 256=n by omega] at h
theorem recordw_on{x:Rc3}{w:World}(hx:x.At w)(hk0:0≤x.key)(hk1:x.key<18446744073709551616)(h1:0<x.vec.xs.length)(h2:x.vec.xs.length≤4096)(h3:x.tag.xs.length≤1024):Calls prog 69 #[x.v] w (WrTo (itemB x.c) [] w):=(record_on hx hk0 hk1 h1 h2 h3).mono fun _ _ h=>wrTo_of0 h
theorem fmt_le(l:List (Value×List Int))(k:Nat):((l.take k).flatMap (·.2)).length≤(l.flatMap (·.2)).length:=by
 conv=>rhs;rw [←List.take_append_drop k l,List.flatMap_append,List.length_append]
 omega
def WgTo(g:Nat)(w4:World)(fs:List (Value×List Int))(ys:List Int)(e:Ending)(w':World):Prop:=∃ f cap,e=.returned (.func (.func f) #[] cap)∧Ws w' g (fs++[(.func (.func f) #[] cap,ys)])∧Below w4.heap.size w4 w'
theorem wg_of{fn:FuncId}{args:Array Value}{ys:List Int}{L:List Nat}{y w4:World}{g:Nat}{fs:List (Value×List Int)}(h:Calls prog fn args y (WrTo ys L y))(hs:Ws y g fs)(hb:Below w4.heap.size w4 y)(hg:g<w4.heap.size)(hL:∀ b∈L,b≠g):Calls prog fn args y (WgTo g w4 fs ys):=
 h.mono fun _ w' ⟨f,cap,K,he,hw,hk,hbb⟩=>⟨f,cap,he,hs.snoc hbb hw (fun b hb'=>by
  rcases hk b hb' with h1|h1
  ·have:=hb.size;omega
  ·exact hL b h1),hb.trans (hbb.mono hb.size)⟩
structure AkM(w w3 w4:World)(g:Nat)(F0:Value)(kk:Int)(cs:Array Value):Prop where
 o:Only [] w3 w4
 b:Below w.heap.size w w4
 s:Ws w4 g [(F0,[kk])]
 r:w4.ownsRow g 154 1 (.slice (some ⟨g,0,none⟩) 1 1) 1 [F0]
 g1:g<w4.heap.size
 g2:w.heap.size<g
 row:Row w4 w.heap.size cs tRq
section
variable {w w3 w4:World} {g:Nat} {F0:Value} {kk:Int} {cs:Array Value}
theorem akm{f0:FuncId}{cap0:Array Value}{K0:List Nat}(R3:Row w3 w.heap.size cs tRq)(B3:Below w.heap.size w w3)(hw:Writes w3 (.func (.func f0) #[] cap0) [kk] K0)(hg:w3.heap.size=g):AkM w w3 (w3.alloc (.cells #[.func (.func f0) #[] cap0] 154)) g (.func (.func f0) #[] cap0) kk cs:=
 ⟨(Ω [] _).alloc _,B3.alloc B3.size _,by have h:=(Ws.nil w3 g).snoc (Δ _ _) hw (fun b hb=>by have:=hw.lt b hb;omega);exact h.below ((Δ _ _).alloc (Θ _) _),by rw [←hg];exact World.ownsRow_lit w3 #[.func (.func f0) #[] cap0] 1 (Θ _) (by decide) rfl,by rw [←hg];simp,by have:=R3.lt;omega,R3.only ((Ω [] _).alloc _) (by simp)⟩
theorem AkM.d(A:AkM w w3 w4 g F0 kk cs){fn:FuncId}{args:Array Value}{ys:List Int}{L:List Nat}(C:∀ y,Below w.heap.size w y→Calls prog fn args y (WrTo ys L y))(hL:∀ b∈L,b<w.heap.size):∀ fs y,Ws y g fs∧Below w4.heap.size w4 y→Calls prog fn args y (WgTo g w4 fs ys):=
 fun fs y h=>wg_of (C y (A.b.trans (h.2.mono A.b.size))) h.1 h.2 A.g1 fun b hb=>by have:=hL b hb;have:=A.g2;omega
theorem AkM.z(A:AkM w w3 w4 g F0 kk cs):Ws w4.drew g [(F0,[kk])]∧Below w4.heap.size w4 w4.drew:=⟨A.s.below (Δ _ _).drew,(Δ _ _).drew⟩
theorem AkM.app(A:AkM w w3 w4 g F0 kk cs){z:World}{ZL:List (Value×List Int)}(Z:Ws z g ZL∧Below w4.heap.size w4 z)(fs:List Value)(h1:∀ u∈fs,u.oneCell'=true)(m:Nat)(hm:fs.length=m)(h100:1+m≤1000) :
  ∃ v' w',(Builtin.append_ #[156,156] 156 #[.slice (some ⟨g,0,none⟩) 1 1,.slice (some ⟨z.heap.size,0,none⟩) m m]).run prog (z.alloc (.cells fs.toArray 154))=.ok v' w'∧(w'.ownsRow g 154 1 v' (1+m) ([F0]++fs)∧Only [g] z w')∧Only [g] w4 w':=by
 obtain ⟨v9,w9,run9,own9,o9,s9⟩:=wr_append z g (.slice (some ⟨g,0,none⟩) 1 1) 1 [F0] fs 156 (own_keep A.r fun b hb=>((Ω [] w4).below Z.2).block b (A.r.lt b hb).2 (by simp)) h1 (Nat.lt_of_lt_of_le A.g1 Z.2.size) m hm h100;have o:Only [g] z w9:=o9.mono (by simp [Value.ownBlock]);exact ⟨v9,w9,run9,⟨own9,o⟩,((Ω [g] w4).below Z.2).trans o (fun b hb=>.inl hb)⟩
theorem AkM.fin(A:AkM w w3 w4 g F0 kk cs){z w9:World}{v9:Value}{ZL:List (Value×List Int)}{form:List Int}(X:(w9.ownsRow g 154 1 v9 ZL.length (ZL.map (·.1))∧Only [g] z w9)∧Only [g] w4 w9)(Z:Ws z g ZL∧Below w4.heap.size w4 z)(h0:0<ZL.length)(h1:ZL.length≤1000)(hl:form.length≤1000000)(hf:ZL.flatMap (·.2)=form) :
  Calls prog 74 #[v9] w9 fun e w7=>∃ v,e=.returned v∧AskTo form w (.returned (.tuple #[v,.int .i64 0])) w7:=by
 have B9:Below w.heap.size w w9:=A.b.trans (X.2.toBelow A.b.size (by intro i hi;simp at hi;have:=A.g2;omega));refine (all_own ZL X.1.1 (Z.1.all X.1.2) h0 h1 (fun k=>Nat.le_trans (fmt_le _ k) (by rw [hf];exact hl))).mono ?_;rintro _ w7 ⟨v,rfl,ho,hb7⟩;rw [hf] at ho;exact ⟨v,rfl,v,rfl,own_mono ho B9.size,B9.trans (hb7.mono B9.size)⟩
end
theorem ask_key(k:Int)(hk:k=3∨k=4)(key:Int)(w:World)(k0:0≤key)(k1:key<18446744073709551616):Calls prog 140 #[.agg #[.int .i64 k,.int .u64 0,.slice none 0 0,.slice none 0 0,.int .u64 key,.int .u64 0,.int .i64 0,.slice none 0 0,.slice none 0 0,.int .i64 0]] w (AskTo ([k]++leB key 8) w):=by
 have R0:=Ξ (Φ w (Rq.lit ⟨k,⟨0,Sl.no,Sl.no⟩,key,0,0,Sl.no,Sl.no,0⟩) tRq);have BA:Hid (Below w.heap.size w (w.alloc (.cells (Rq.lit ⟨k,⟨0,Sl.no,Sl.no⟩,key,0,0,Sl.no,Sl.no,0⟩) tRq))):=Ξ ((Δ _ w).alloc (Θ _) _);have MA:Hid (∀ y,Below w.heap.size w y→Calls prog 183 #[.agg (Rq.lit ⟨k,⟨0,Sl.no,Sl.no⟩,key,0,0,Sl.no,Sl.no,0⟩)] y fun e w'=>e=.returned (.bool true)∧Below y.heap.size y w'):=Ξ fun y hy=>mayask_key k (by omega) key y;have U8:=Ξ fun y=>u8k_on k (by omega) (by omega) y;have C1:=Ξ fun (y:World) (hy:Below w.heap.size w y)=>u64w_on key k0 k1 y;have HLN:Hid (([k]++leB key 8).length≤1000000):=Ξ (by simp only [List.length_append,leB_len,vecB_len,flsB_len,List.length_singleton,List.length_cons,List.length_nil];omega);clear k0 k1;rcases hk with rfl|rfl
 ·go_enter func140,ntmps140;go_wp2_with fail;refine (MA.out _ BA.out).mono ?_;rintro _ w2 ⟨rfl,hb2⟩;have R2:=Ξ (R0.out.only ((Ω [] _).below hb2) (by simp));have B2:=Ξ (BA.out.trans (hb2.mono BA.out.size));have l0:=R2.out.c 0 (.int .i64 3);clear hb2 MA R0 BA;go_wp2_with fail;refine (U8.out _).mono ?_;rintro _ w3 ⟨f0,cap0,K0,rfl,hw,hk,hb3⟩;obtain ⟨g,hg⟩:∃ g,w3.heap.size=g:=⟨_,rfl⟩;have A4:=Ξ (akm (R2.out.only ((Ω [] _).below hb3) (by simp)) (B2.out.trans (hb3.mono B2.out.size)) hw hg);have l4:=A4.out.row.c 0 (.int .i64 3);clear hw hk hb3 U8 l0 R2 B2;go_upto_region 9 with fail;rw [hg] at *;clear hg;generalize w3.alloc (.cells #[.func (.func f0) #[] cap0] 154)=w4 at *;have SO:Hid (∀ y,Only [g] w4 y→y.cell? ⟨w.heap.size,4,none⟩=some (.int .u64 key)):=Ξ fun y ky=>by have h:=A4.out.row.only ky (by have:=A4.out.g2;simp;omega);exact (h.cell 4)
  clear l4;have D1:=Ξ (A4.out.d C1.out (by simp));have Z0:=Ξ (Ψ A4.out.s (Δ w4.heap.size w4));have SS:=SO.out w4 (Ω _ _);have s0:=SS;go_wp2_with fail;refine (D1.out _ w4 Z0.out).mono ?_;rintro _ z1 ⟨f1,cap1,rfl,hz,hb⟩;have Z1:=Ξ (Ψ hz hb);clear hz hb;obtain ⟨i0',hi0,hz0,hz1,hz2⟩:=info_parts infoWr;go_wp2_with (at_builtin;refine wpList_append_src rfl (.tmp 25) (.tmp 29) 156 rfl g 154 i0' .nilFunc 1 8 underlying156 hi0 hz0 hz1 hz2 rfl (by decide) _ 1 [.func (.func f0) #[] cap0] rfl ((own_keep A4.out.r fun b hb=>((Ω [] w4).below Z1.out.2).block b (A4.out.r.lt b hb).2 (by simp)).alloc _) _ 1 [.func (.func f1) #[] cap1] rfl (src_fn z1 _) (by simp [Value.oneCell']) (by decide) (by decide) (by have:=Z1.out.2.size;have:=A4.out.g1;simp;omega) ?more);case more=>
   intro v9 w9 own9 g9;have o9:Only [g] z1 w9:=((Ω [g] z1).alloc _).grown g9 (fun k hk=>.inl (by simp [Value.ownBlock] at hk;simp [hk]));have X9:=Ξ (Ψ (Ψ own9 o9) (((Ω [g] w4).below Z1.out.2).trans o9 (fun b hb=>.inl hb)));clear own9 g9 o9;have AL:=Ξ (A4.out.fin X9.out Z1.out (by simp) (by simp) HLN.out (by simp));go_wp2_with fail;refine AL.out.mono ?_;rintro _ w7 ⟨v,rfl,n7⟩;have N7:=Ξ n7;clear n7 AL;go_wp2_with fail;go_ret2;exact N7.out
 ·go_enter func140,ntmps140;go_wp2_with fail;refine (MA.out _ BA.out).mono ?_;rintro _ w2 ⟨rfl,hb2⟩;have R2:=Ξ (R0.out.only ((Ω [] _).below hb2) (by simp));have B2:=Ξ (BA.out.trans (hb2.mono BA.out.size));have l0:=R2.out.c 0 (.int .i64 4);clear hb2 MA R0 BA;go_wp2_with fail;refine (U8.out _).mono ?_;rintro _ w3 ⟨f0,cap0,K0,rfl,hw,hk,hb3⟩;obtain ⟨g,hg⟩:∃ g,w3.heap.size=g:=⟨_,rfl⟩;have A4:=Ξ (akm (R2.out.only ((Ω [] _).below hb3) (by simp)) (B2.out.trans (hb3.mono B2.out.size)) hw hg);have l4:=A4.out.row.c 0 (.int .i64 4);clear hw hk hb3 U8 l0 R2 B2;go_upto_region 9 with fail;rw [hg] at *;clear hg;generalize w3.alloc (.cells #[.func (.func f0) #[] cap0] 154)=w4 at *;have SO:Hid (∀ y,Only [g] w4 y→y.cell? ⟨w.heap.size,4,none⟩=some (.int .u64 key)):=Ξ fun y ky=>by have h:=A4.out.row.only ky (by have:=A4.out.g2;simp;omega);exact (h.cell 4)
  clear l4;have D1:=Ξ (A4.out.d C1.out (by simp));have Z0:=Ξ (Ψ A4.out.s (Δ w4.heap.size w4));have SS:=SO.out w4 (Ω _ _);have s0:=SS;go_wp2_with fail;refine (D1.out _ w4 Z0.out).mono ?_;rintro _ z1 ⟨f1,cap1,rfl,hz,hb⟩;have Z1:=Ξ (Ψ hz hb);clear hz hb;obtain ⟨i0',hi0,hz0,hz1,hz2⟩:=info_parts infoWr;go_wp2_with (at_builtin;refine wpList_append_src rfl (.tmp 25) (.tmp 29) 156 rfl g 154 i0' .nilFunc 1 8 underlying156 hi0 hz0 hz1 hz2 rfl (by decide) _ 1 [.func (.func f0) #[] cap0] rfl ((own_keep A4.out.r fun b hb=>((Ω [] w4).below Z1.out.2).block b (A4.out.r.lt b hb).2 (by simp)).alloc _) _ 1 [.func (.func f1) #[] cap1] rfl (src_fn z1 _) (by simp [Value.oneCell']) (by decide) (by decide) (by have:=Z1.out.2.size;have:=A4.out.g1;simp;omega) ?more);case more=>
   intro v9 w9 own9 g9;have o9:Only [g] z1 w9:=((Ω [g] z1).alloc _).grown g9 (fun k hk=>.inl (by simp [Value.ownBlock] at hk;simp [hk]));have X9:=Ξ (Ψ (Ψ own9 o9) (((Ω [g] w4).below Z1.out.2).trans o9 (fun b hb=>.inl hb)));clear own9 g9 o9;have AL:=Ξ (A4.out.fin X9.out Z1.out (by simp) (by simp) HLN.out (by simp));go_wp2_with fail;refine AL.out.mono ?_;rintro _ w7 ⟨v,rfl,n7⟩;have N7:=Ξ n7;clear n7 AL;go_wp2_with fail;go_ret2;exact N7.out
theorem ask_range(key hi n:Int)(w:World)(k0:0≤key)(k1:key<18446744073709551616)(h0:0≤hi)(h1:hi<18446744073709551616)(n0:0≤n)(n1:n≤50):Calls prog 140 #[.agg #[.int .i64 5,.int .u64 0,.slice none 0 0,.slice none 0 0,.int .u64 key,.int .u64 hi,.int .i64 n,.slice none 0 0,.slice none 0 0,.int .i64 0]] w (AskTo ([5]++leB key 8++leB hi 8++[n]) w):=by
 have R0:=Ξ (Φ w (Rq.lit ⟨5,⟨0,Sl.no,Sl.no⟩,key,hi,n,Sl.no,Sl.no,0⟩) tRq);have BA:Hid (Below w.heap.size w (w.alloc (.cells (Rq.lit ⟨5,⟨0,Sl.no,Sl.no⟩,key,hi,n,Sl.no,Sl.no,0⟩) tRq))):=Ξ ((Δ _ w).alloc (Θ _) _);have MA:Hid (∀ y,Below w.heap.size w y→Calls prog 183 #[.agg (Rq.lit ⟨5,⟨0,Sl.no,Sl.no⟩,key,hi,n,Sl.no,Sl.no,0⟩)] y fun e w'=>e=.returned (.bool true)∧Below y.heap.size y w'):=Ξ fun y hy=>by have h:=mayask_range key hi n y n0;rwa [Γ n1] at h
 have U8:=Ξ fun y=>u8k_on 5 (by omega) (by omega) y;have C1:=Ξ fun (y:World) (hy:Below w.heap.size w y)=>u64w_on key k0 k1 y;have C2:=Ξ fun (y:World) (hy:Below w.heap.size w y)=>u64w_on hi h0 h1 y;have C3:=Ξ fun (y:World) (hy:Below w.heap.size w y)=>u8k_on n n0 (by omega) y;have HLN:Hid (([5]++leB key 8++leB hi 8++[n]).length≤1000000):=Ξ (by simp only [List.length_append,leB_len,vecB_len,flsB_len,List.length_singleton,List.length_cons,List.length_nil];omega);clear k0 k1 h0 h1 n0 n1;go_enter func140,ntmps140;go_wp2_with fail;refine (MA.out _ BA.out).mono ?_;rintro _ w2 ⟨rfl,hb2⟩;have R2:=Ξ (R0.out.only ((Ω [] _).below hb2) (by simp));have B2:=Ξ (BA.out.trans (hb2.mono BA.out.size));have l0:=R2.out.c 0 (.int .i64 5);clear hb2 MA R0 BA;go_wp2_with fail;refine (U8.out _).mono ?_;rintro _ w3 ⟨f0,cap0,K0,rfl,hw,hk,hb3⟩;obtain ⟨g,hg⟩:∃ g,w3.heap.size=g:=⟨_,rfl⟩;have A4:=Ξ (akm (R2.out.only ((Ω [] _).below hb3) (by simp)) (B2.out.trans (hb3.mono B2.out.size)) hw hg);have l4:=A4.out.row.c 0 (.int .i64 5);clear hw hk hb3 U8 l0 R2 B2;go_upto_region 11 with fail;rw [hg] at *;clear hg;generalize w3.alloc (.cells #[.func (.func f0) #[] cap0] 154)=w4 at *;have SO:Hid (∀ y,Only [g] w4 y→y.cell? ⟨w.heap.size,4,none⟩=some (.int .u64 key)∧y.cell? ⟨w.heap.size,5,none⟩=some (.int .u64 hi)∧y.cell? ⟨w.heap.size,6,none⟩=some (.int .i64 n)):=Ξ fun y ky=>by have h:=A4.out.row.only ky (by have:=A4.out.g2;simp;omega);exact ⟨h.cell 4,h.cell 5,h.cell 6⟩
 clear l4;have D1:=Ξ (A4.out.d C1.out (by simp));have D2:=Ξ (A4.out.d C2.out (by simp));have D3:=Ξ (A4.out.d C3.out (by simp));have Z0:=Ξ A4.out.z;go_region_held3 (fun y=>y.cell? ⟨w.heap.size,4,none⟩=some (.int .u64 key)∧y.cell? ⟨w.heap.size,5,none⟩=some (.int .u64 hi)∧y.cell? ⟨w.heap.size,6,none⟩=some (.int .i64 n))
  (first
   | exact SO.out _ X9.out.2
   | exact SO.out _ (((Ω [g] w4).below Z3.out.2).alloc _)
   | exact SO.out _ ((Ω [g] w4).below Z3.out.2)
   | exact SO.out _ ((Ω [g] w4).below Z2.out.2)
   | exact SO.out _ ((Ω [g] w4).below Z1.out.2)
   | exact SO.out _ ((Ω [g] w4).below Z0.out.2))
  (first
   | ((with_reducible refine (D1.out _ w4.drew Z0.out).mono ?_);rintro _ z1 ⟨f1,cap1,rfl,hz,hb⟩;have Z1:=Ξ (Ψ hz hb);clear hz hb)
   | ((with_reducible refine (D2.out _ z1 Z1.out).mono ?_);rintro _ z2 ⟨f2,cap2,rfl,hz,hb⟩;have Z2:=Ξ (Ψ hz hb);clear hz hb)
   | ((with_reducible refine (D3.out _ z2 Z2.out).mono ?_);rintro _ z3 ⟨f3,cap3,rfl,hz,hb⟩;have Z3:=Ξ (Ψ hz hb);clear hz hb)
   | (obtain ⟨v9,w9,run9,x9⟩:=A4.out.app Z3.out [.func (.func f1) #[] cap1,.func (.func f2) #[] cap2,.func (.func f3) #[] cap3] (by simp [Value.oneCell']) 3 rfl (by decide);have X9:=Ξ x9;refine step_append_eq rfl (.tmp 33) (.tmp 43) 156 rfl (.slice (some ⟨g,0,none⟩) 1 1) (.slice (some ⟨z3.heap.size,0,none⟩) 3 3) v9 w9 (by simp [Act.eval,Act.put]) (by simp [Act.eval,Act.put]) run9 ?_;clear run9 x9)
   | fail)
 all_goals
  have AL:=Ξ (A4.out.fin X9.out Z3.out (by simp) (by simp) HLN.out (by simp));go_wp2_with fail;refine AL.out.mono ?_;rintro _ w7 ⟨v,rfl,n7⟩;have N7:=Ξ n7;clear n7 AL;go_wp2_with fail;go_ret2;exact N7.out
theorem ask_knn(n:Int)(q:Sl)(w:World)(n0:0≤n)(n1:n≤50)(hq:SlRd .i32 w q)(qr:∀ z∈q.xs,-2147483648≤z∧z<2147483648)(q4:q.xs.length≤4096):Calls prog 140 #[.agg #[.int .i64 6,.int .u64 0,.slice none 0 0,.slice none 0 0,.int .u64 0,.int .u64 0,.int .i64 n,.slice q.a q.xs.length q.c,.slice none 0 0,.int .i64 0]] w (AskTo ([6]++[n]++(uvB q.xs.length++vecB q.xs)) w):=by
 have R0:=Ξ (Φ w (Rq.lit ⟨6,⟨0,Sl.no,Sl.no⟩,0,0,n,q,Sl.no,0⟩) tRq);have BA:Hid (Below w.heap.size w (w.alloc (.cells (Rq.lit ⟨6,⟨0,Sl.no,Sl.no⟩,0,0,n,q,Sl.no,0⟩) tRq))):=Ξ ((Δ _ w).alloc (Θ _) _);have MA:Hid (∀ y,Below w.heap.size w y→Calls prog 183 #[.agg (Rq.lit ⟨6,⟨0,Sl.no,Sl.no⟩,0,0,n,q,Sl.no,0⟩)] y fun e w'=>e=.returned (.bool true)∧Below y.heap.size y w'):=Ξ fun y hy=>by have h:=mayask_knn n q y n0 (hq.only ((Ω [] w).below hy) (by simp)) q4;rwa [Γ n1] at h
 have U8:=Ξ fun y=>u8k_on 6 (by omega) (by omega) y;have C1:=Ξ fun (y:World) (hy:Below w.heap.size w y)=>u8k_on n n0 (by omega) y;have C2:=Ξ fun (y:World) (hy:Below w.heap.size w y)=>numbersw_on (hq.only ((Ω [] w).below hy) (by simp)) qr q4;unfold Sl.v at C2;have HLN:Hid (([6]++[n]++(uvB q.xs.length++vecB q.xs)).length≤1000000):=Ξ (by have:=uvB_len 3 q.xs.length (by omega) (by omega);simp only [List.length_append,leB_len,vecB_len,flsB_len,List.length_singleton,List.length_cons,List.length_nil];omega);have LG2:=Ξ hq.kb_lt;clear n0 n1 hq qr q4;go_enter func140,ntmps140;go_wp2_with fail;refine (MA.out _ BA.out).mono ?_;rintro _ w2 ⟨rfl,hb2⟩;have R2:=Ξ (R0.out.only ((Ω [] _).below hb2) (by simp));have B2:=Ξ (BA.out.trans (hb2.mono BA.out.size));have l0:=R2.out.c 0 (.int .i64 6);clear hb2 MA R0 BA;go_wp2_with fail;refine (U8.out _).mono ?_;rintro _ w3 ⟨f0,cap0,K0,rfl,hw,hk,hb3⟩;obtain ⟨g,hg⟩:∃ g,w3.heap.size=g:=⟨_,rfl⟩;have A4:=Ξ (akm (R2.out.only ((Ω [] _).below hb3) (by simp)) (B2.out.trans (hb3.mono B2.out.size)) hw hg);have l4:=A4.out.row.c 0 (.int .i64 6);clear hw hk hb3 U8 l0 R2 B2;go_upto_region 13 with fail;rw [hg] at *;clear hg;generalize w3.alloc (.cells #[.func (.func f0) #[] cap0] 154)=w4 at *;have SO:Hid (∀ y,Only [g] w4 y→y.cell? ⟨w.heap.size,6,none⟩=some (.int .i64 n)∧y.cell? ⟨w.heap.size,7,none⟩=some (.slice q.a q.xs.length q.c)):=Ξ fun y ky=>by have h:=A4.out.row.only ky (by have:=A4.out.g2;simp;omega);exact ⟨h.cell 6,h.cell 7⟩
 clear l4;have D1:=Ξ (A4.out.d C1.out (by simp));have D2:=Ξ (A4.out.d C2.out LG2.out);have Z0:=Ξ A4.out.z;go_region_held3 (fun y=>y.cell? ⟨w.heap.size,6,none⟩=some (.int .i64 n)∧y.cell? ⟨w.heap.size,7,none⟩=some (.slice q.a q.xs.length q.c))
  (first
   | exact SO.out _ X9.out.2
   | exact SO.out _ (((Ω [g] w4).below Z2.out.2).alloc _)
   | exact SO.out _ ((Ω [g] w4).below Z2.out.2)
   | exact SO.out _ ((Ω [g] w4).below Z1.out.2)
   | exact SO.out _ ((Ω [g] w4).below Z0.out.2))
  (first
   | ((with_reducible refine (D1.out _ w4.drew Z0.out).mono ?_);rintro _ z1 ⟨f1,cap1,rfl,hz,hb⟩;have Z1:=Ξ (Ψ hz hb);clear hz hb)
   | ((with_reducible refine (D2.out _ z1 Z1.out).mono ?_);rintro _ z2 ⟨f2,cap2,rfl,hz,hb⟩;have Z2:=Ξ (Ψ hz hb);clear hz hb)
   | (obtain ⟨v9,w9,run9,x9⟩:=A4.out.app Z2.out [.func (.func f1) #[] cap1,.func (.func f2) #[] cap2] (by simp [Value.oneCell']) 2 rfl (by decide);have X9:=Ξ x9;refine step_append_eq rfl (.tmp 47) (.tmp 54) 156 rfl (.slice (some ⟨g,0,none⟩) 1 1) (.slice (some ⟨z2.heap.size,0,none⟩) 2 2) v9 w9 (by simp [Act.eval,Act.put]) (by simp [Act.eval,Act.put]) run9 ?_;clear run9 x9)
   | fail)
 all_goals
  have AL:=Ξ (A4.out.fin X9.out Z2.out (by simp) (by simp) HLN.out (by simp));go_wp2_with fail;refine AL.out.mono ?_;rintro _ w7 ⟨v,rfl,n7⟩;have N7:=Ξ n7;clear n7 AL;go_wp2_with fail;go_ret2;exact N7.out
theorem ask_put(key:Int)(vec tag:Sl)(w:World)(k0:0≤key)(k1:key<18446744073709551616)(hv:SlRd .i32 w vec)(ht:SlRd .u8 w tag)(hb:IsBy tag.xs)(v0:0<vec.xs.length)(v4:vec.xs.length≤4096)(t1:tag.xs.length≤1024):Calls prog 140 #[.agg #[.int .i64 2,.int .u64 key,.slice vec.a vec.xs.length vec.c,.slice tag.a tag.xs.length tag.c,.int .u64 0,.int .u64 0,.int .i64 0,.slice none 0 0,.slice none 0 0,.int .i64 0]] w (AskTo ([2]++itemB (key,vec.xs,tag.xs)) w):=by
 have R0:=Ξ (Φ w (Rq.lit ⟨2,⟨key,vec,tag⟩,0,0,0,Sl.no,Sl.no,0⟩) tRq);have BA:Hid (Below w.heap.size w (w.alloc (.cells (Rq.lit ⟨2,⟨key,vec,tag⟩,0,0,0,Sl.no,Sl.no,0⟩) tRq))):=Ξ ((Δ _ w).alloc (Θ _) _);have MA:Hid (∀ y,Below w.heap.size w y→Calls prog 183 #[.agg (Rq.lit ⟨2,⟨key,vec,tag⟩,0,0,0,Sl.no,Sl.no,0⟩)] y fun e w'=>e=.returned (.bool true)∧Below y.heap.size y w'):=Ξ fun y hy=>by have h:=mayask_put key vec tag y (hv.only ((Ω [] w).below hy) (by simp)) (ht.only ((Ω [] w).below hy) (by simp)) hb (.inl ⟨v0,v4,t1⟩);rwa [show decide (okE vec.xs.length tag.xs.length=0)=true by unfold okE;rw [if_neg (by omega),if_neg (by omega)];rfl] at h
 have U8:=Ξ fun y=>u8k_on 2 (by omega) (by omega) y;have C1:Hid (∀ y,Below w.heap.size w y→Calls prog 69 #[.agg #[.int .u64 key,.slice vec.a vec.xs.length vec.c,.slice tag.a tag.xs.length tag.c]] y (WrTo (itemB (key,vec.xs,tag.xs)) [] y)):=Ξ fun y hy=>recordw_on (x:=⟨key,vec,tag⟩) ((Rc3.At.below (x:=⟨key,vec,tag⟩) ⟨hv,ht,hb⟩ hy)) k0 k1 v0 v4 t1;have HLN:Hid (([2]++itemB (key,vec.xs,tag.xs)).length≤1000000):=Ξ (by have:=uvB_len 3 vec.xs.length (by omega) (by omega);have:=uvB_len 3 tag.xs.length (by omega) (by omega);unfold itemB textB;simp only [List.length_append,leB_len,vecB_len,flsB_len,List.length_singleton,List.length_cons,List.length_nil];omega);clear k0 k1 hv ht hb v0 v4 t1;go_enter func140,ntmps140;go_wp2_with fail;refine (MA.out _ BA.out).mono ?_;rintro _ w2 ⟨rfl,hb2⟩;have R2:=Ξ (R0.out.only ((Ω [] _).below hb2) (by simp));have B2:=Ξ (BA.out.trans (hb2.mono BA.out.size));have l0:=R2.out.c 0 (.int .i64 2);clear hb2 MA R0 BA;go_wp2_with fail;refine (U8.out _).mono ?_;rintro _ w3 ⟨f0,cap0,K0,rfl,hw,hk,hb3⟩;obtain ⟨g,hg⟩:∃ g,w3.heap.size=g:=⟨_,rfl⟩;have A4:=Ξ (akm (R2.out.only ((Ω [] _).below hb3) (by simp)) (B2.out.trans (hb3.mono B2.out.size)) hw hg);have l4:=A4.out.row.c 0 (.int .i64 2);clear hw hk hb3 U8 l0 R2 B2;go_upto_region 6 with fail;rw [hg] at *;clear hg;generalize w3.alloc (.cells #[.func (.func f0) #[] cap0] 154)=w4 at *;have SO:Hid (∀ y,Only [g] w4 y→y.cell? ⟨w.heap.size,1,none⟩=some (.int .u64 key)∧y.cell? ⟨w.heap.size,2,none⟩=some (.slice vec.a vec.xs.length vec.c)∧y.cell? ⟨w.heap.size,3,none⟩=some (.slice tag.a tag.xs.length tag.c)):=Ξ fun y ky=>by have h:=A4.out.row.only ky (by have:=A4.out.g2;simp;omega);exact ⟨h.cell 1,h.cell 2,h.cell 3⟩
 clear l4;have D1:=Ξ (A4.out.d C1.out (by simp));have Z0:=Ξ (Ψ A4.out.s (Δ w4.heap.size w4));have SS:=SO.out w4 (Ω _ _);obtain ⟨s0,s1,s2⟩:=SS;go_wp2_with fail;refine (D1.out _ w4 Z0.out).mono ?_;rintro _ z1 ⟨f1,cap1,rfl,hz,hb⟩;have Z1:=Ξ (Ψ hz hb);clear hz hb;obtain ⟨i0',hi0,hz0,hz1,hz2⟩:=info_parts infoWr;go_wp2_with (at_builtin;refine wpList_append_src rfl (.tmp 16) (.tmp 20) 156 rfl g 154 i0' .nilFunc 1 8 underlying156 hi0 hz0 hz1 hz2 rfl (by decide) _ 1 [.func (.func f0) #[] cap0] rfl ((own_keep A4.out.r fun b hb=>((Ω [] w4).below Z1.out.2).block b (A4.out.r.lt b hb).2 (by simp)).alloc _) _ 1 [.func (.func f1) #[] cap1] rfl (src_fn z1 _) (by simp [Value.oneCell']) (by decide) (by decide) (by have:=Z1.out.2.size;have:=A4.out.g1;simp;omega) ?more);case more=>
  intro v9 w9 own9 g9;have o9:Only [g] z1 w9:=((Ω [g] z1).alloc _).grown g9 (fun k hk=>.inl (by simp [Value.ownBlock] at hk;simp [hk]));have X9:=Ξ (Ψ (Ψ own9 o9) (((Ω [g] w4).below Z1.out.2).trans o9 (fun b hb=>.inl hb)));clear own9 g9 o9;have AL:=Ξ (A4.out.fin X9.out Z1.out (by simp) (by simp) HLN.out (by simp));go_wp2_with fail;refine AL.out.mono ?_;rintro _ w7 ⟨v,rfl,n7⟩;have N7:=Ξ n7;clear n7 AL;go_wp2_with fail;go_ret2;exact N7.out
theorem ask_putf(key sc:Int)(tag fl:Sl)(w:World)(k0:0≤key)(k1:key<18446744073709551616)(s0 : -64≤sc)(s1:sc≤64)(hf:SlRd .u64 w fl)(fr:∀ z∈fl.xs,0≤z∧z<18446744073709551616)(f4:fl.xs.length≤4096)(ht:SlRd .u8 w tag)(hb:IsBy tag.xs)(t1:tag.xs.length≤1024):Calls prog 140 #[.agg #[.int .i64 10,.int .u64 key,.slice none 0 0,.slice tag.a tag.xs.length tag.c,.int .u64 0,.int .u64 0,.int .i64 0,.slice none 0 0,.slice fl.a fl.xs.length fl.c,.int .i64 sc]] w (AskTo ([10]++leB key 8++[sc % 256]++(uvB fl.xs.length++flsB fl.xs)++textB tag.xs) w):=by
 have R0:=Ξ (Φ w (Rq.lit ⟨10,⟨key,Sl.no,tag⟩,0,0,0,Sl.no,fl,sc⟩) tRq);have BA:Hid (Below w.heap.size w (w.alloc (.cells (Rq.lit ⟨10,⟨key,Sl.no,tag⟩,0,0,0,Sl.no,fl,sc⟩) tRq))):=Ξ ((Δ _ w).alloc (Θ _) _);have MA:Hid (∀ y,Below w.heap.size w y→Calls prog 183 #[.agg (Rq.lit ⟨10,⟨key,Sl.no,tag⟩,0,0,0,Sl.no,fl,sc⟩)] y fun e w'=>e=.returned (.bool true)∧Below y.heap.size y w'):=Ξ fun y hy=>by have h:=mayask_putf key sc tag fl y (ht.only ((Ω [] w).below hy) (by simp)) hb (hf.only ((Ω [] w).below hy) (by simp)) f4 t1;rwa [Γ s0,Γ s1] at h
 have U8:=Ξ fun y=>u8k_on 10 (by omega) (by omega) y;have C1:=Ξ fun (y:World) (hy:Below w.heap.size w y)=>u64w_on key k0 k1 y;have C2:=Ξ fun (y:World) (hy:Below w.heap.size w y)=>u8w_on sc y;have C3:=Ξ fun (y:World) (hy:Below w.heap.size w y)=>floatsw_on (hf.only ((Ω [] w).below hy) (by simp)) fr f4;unfold Sl.v at C3;have C4:=Ξ fun (y:World) (hy:Below w.heap.size w y)=>textw_on (ht.only ((Ω [] w).below hy) (by simp));unfold Sl.v at C4;have HLN:Hid (([10]++leB key 8++[sc % 256]++(uvB fl.xs.length++flsB fl.xs)++textB tag.xs).length≤1000000):=Ξ (by have:=uvB_len 3 fl.xs.length (by omega) (by omega);have:=uvB_len 3 tag.xs.length (by omega) (by omega);unfold textB;simp only [List.length_append,leB_len,vecB_len,flsB_len,List.length_singleton,List.length_cons,List.length_nil];omega);have LG3:=Ξ hf.kb_lt;have LG4:=Ξ ht.kb_lt;clear k0 k1 s0 s1 hf fr f4 ht hb t1;go_enter func140,ntmps140;go_wp2_with fail;refine (MA.out _ BA.out).mono ?_;rintro _ w2 ⟨rfl,hb2⟩;have R2:=Ξ (R0.out.only ((Ω [] _).below hb2) (by simp));have B2:=Ξ (BA.out.trans (hb2.mono BA.out.size));have l0:=R2.out.c 0 (.int .i64 10);clear hb2 MA R0 BA;go_wp2_with fail;refine (U8.out _).mono ?_;rintro _ w3 ⟨f0,cap0,K0,rfl,hw,hk,hb3⟩;obtain ⟨g,hg⟩:∃ g,w3.heap.size=g:=⟨_,rfl⟩;have A4:=Ξ (akm (R2.out.only ((Ω [] _).below hb3) (by simp)) (B2.out.trans (hb3.mono B2.out.size)) hw hg);have l4:=A4.out.row.c 0 (.int .i64 10);clear hw hk hb3 U8 l0 R2 B2;go_upto_region 15 with fail;rw [hg] at *;clear hg;generalize w3.alloc (.cells #[.func (.func f0) #[] cap0] 154)=w4 at *;have SO:Hid (∀ y,Only [g] w4 y→y.cell? ⟨w.heap.size,1,none⟩=some (.int .u64 key)∧y.cell? ⟨w.heap.size,3,none⟩=some (.slice tag.a tag.xs.length tag.c)∧y.cell? ⟨w.heap.size,8,none⟩=some (.slice fl.a fl.xs.length fl.c)∧y.cell? ⟨w.heap.size,9,none⟩=some (.int .i64 sc)):=Ξ fun y ky=>by have h:=A4.out.row.only ky (by have:=A4.out.g2;simp;omega);exact ⟨h.cell 1,h.cell 3,h.cell 8,h.cell 9⟩
 clear l4;have D1:=Ξ (A4.out.d C1.out (by simp));have D2:=Ξ (A4.out.d C2.out (by simp));have D3:=Ξ (A4.out.d C3.out LG3.out);have D4:=Ξ (A4.out.d C4.out LG4.out);have Z0:=Ξ A4.out.z;go_region_held3 (fun y=>y.cell? ⟨w.heap.size,1,none⟩=some (.int .u64 key)∧y.cell? ⟨w.heap.size,3,none⟩=some (.slice tag.a tag.xs.length tag.c)∧y.cell? ⟨w.heap.size,8,none⟩=some (.slice fl.a fl.xs.length fl.c)∧y.cell? ⟨w.heap.size,9,none⟩=some (.int .i64 sc))
  (first
   | exact SO.out _ X9.out.2
   | exact SO.out _ (((Ω [g] w4).below Z4.out.2).alloc _)
   | exact SO.out _ ((Ω [g] w4).below Z4.out.2)
   | exact SO.out _ ((Ω [g] w4).below Z3.out.2)
   | exact SO.out _ ((Ω [g] w4).below Z2.out.2)
   | exact SO.out _ ((Ω [g] w4).below Z1.out.2)
   | exact SO.out _ ((Ω [g] w4).below Z0.out.2))
  (first
   | ((with_reducible refine (D1.out _ w4.drew Z0.out).mono ?_);rintro _ z1 ⟨f1,cap1,rfl,hz,hb⟩;have Z1:=Ξ (Ψ hz hb);clear hz hb)
   | ((with_reducible refine (D2.out _ z1 Z1.out).mono ?_);rintro _ z2 ⟨f2,cap2,rfl,hz,hb⟩;have Z2:=Ξ (Ψ hz hb);clear hz hb)
   | ((with_reducible refine (D3.out _ z2 Z2.out).mono ?_);rintro _ z3 ⟨f3,cap3,rfl,hz,hb⟩;have Z3:=Ξ (Ψ hz hb);clear hz hb)
   | ((with_reducible refine (D4.out _ z3 Z3.out).mono ?_);rintro _ z4 ⟨f4,cap4,rfl,hz,hb⟩;have Z4:=Ξ (Ψ hz hb);clear hz hb)
   | (obtain ⟨v9,w9,run9,x9⟩:=A4.out.app Z4.out [.func (.func f1) #[] cap1,.func (.func f2) #[] cap2,.func (.func f3) #[] cap3,.func (.func f4) #[] cap4] (by simp [Value.oneCell']) 4 rfl (by decide);have X9:=Ξ x9;refine step_append_eq rfl (.tmp 58) (.tmp 73) 156 rfl (.slice (some ⟨g,0,none⟩) 1 1) (.slice (some ⟨z4.heap.size,0,none⟩) 4 4) v9 w9 (by simp [Act.eval,Act.put]) (by simp [Act.eval,Act.put]) run9 ?_;clear run9 x9)
   | fail)
 all_goals
  have AL:=Ξ (A4.out.fin X9.out Z4.out (by simp) (by simp) HLN.out (by simp));go_wp2_with fail;refine AL.out.mono ?_;rintro _ w7 ⟨v,rfl,n7⟩;have N7:=Ξ n7;clear n7 AL;go_wp2_with fail;go_ret2;exact N7.out
theorem ask_knnf(n sc:Int)(fl:Sl)(w:World)(n0:0≤n)(n1:n≤50)(s0 : -64≤sc)(s1:sc≤64)(hf:SlRd .u64 w fl)(fr:∀ z∈fl.xs,0≤z∧z<18446744073709551616)(f4:fl.xs.length≤4096):Calls prog 140 #[.agg #[.int .i64 11,.int .u64 0,.slice none 0 0,.slice none 0 0,.int .u64 0,.int .u64 0,.int .i64 n,.slice none 0 0,.slice fl.a fl.xs.length fl.c,.int .i64 sc]] w (AskTo ([11]++[n]++[sc % 256]++(uvB fl.xs.length++flsB fl.xs)) w):=by
 have R0:=Ξ (Φ w (Rq.lit ⟨11,⟨0,Sl.no,Sl.no⟩,0,0,n,Sl.no,fl,sc⟩) tRq);have BA:Hid (Below w.heap.size w (w.alloc (.cells (Rq.lit ⟨11,⟨0,Sl.no,Sl.no⟩,0,0,n,Sl.no,fl,sc⟩) tRq))):=Ξ ((Δ _ w).alloc (Θ _) _);have MA:Hid (∀ y,Below w.heap.size w y→Calls prog 183 #[.agg (Rq.lit ⟨11,⟨0,Sl.no,Sl.no⟩,0,0,n,Sl.no,fl,sc⟩)] y fun e w'=>e=.returned (.bool true)∧Below y.heap.size y w'):=Ξ fun y hy=>by have h:=mayask_knnf n sc fl y n0 (hf.only ((Ω [] w).below hy) (by simp)) f4;rwa [Γ n1,Γ s0,Γ s1] at h
 have U8:=Ξ fun y=>u8k_on 11 (by omega) (by omega) y;have C1:=Ξ fun (y:World) (hy:Below w.heap.size w y)=>u8k_on n n0 (by omega) y;have C2:=Ξ fun (y:World) (hy:Below w.heap.size w y)=>u8w_on sc y;have C3:=Ξ fun (y:World) (hy:Below w.heap.size w y)=>floatsw_on (hf.only ((Ω [] w).below hy) (by simp)) fr f4;unfold Sl.v at C3;have HLN:Hid (([11]++[n]++[sc % 256]++(uvB fl.xs.length++flsB fl.xs)).length≤1000000):=Ξ (by have:=uvB_len 3 fl.xs.length (by omega) (by omega);simp only [List.length_append,leB_len,vecB_len,flsB_len,List.length_singleton,List.length_cons,List.length_nil];omega);have LG3:=Ξ hf.kb_lt;clear n0 n1 s0 s1 hf fr f4;go_enter func140,ntmps140;go_wp2_with fail;refine (MA.out _ BA.out).mono ?_;rintro _ w2 ⟨rfl,hb2⟩;have R2:=Ξ (R0.out.only ((Ω [] _).below hb2) (by simp));have B2:=Ξ (BA.out.trans (hb2.mono BA.out.size));have l0:=R2.out.c 0 (.int .i64 11);clear hb2 MA R0 BA;go_wp2_with fail;refine (U8.out _).mono ?_;rintro _ w3 ⟨f0,cap0,K0,rfl,hw,hk,hb3⟩;obtain ⟨g,hg⟩:∃ g,w3.heap.size=g:=⟨_,rfl⟩;have A4:=Ξ (akm (R2.out.only ((Ω [] _).below hb3) (by simp)) (B2.out.trans (hb3.mono B2.out.size)) hw hg);have l4:=A4.out.row.c 0 (.int .i64 11);clear hw hk hb3 U8 l0 R2 B2;go_upto_region 17 with fail;rw [hg] at *;clear hg;generalize w3.alloc (.cells #[.func (.func f0) #[] cap0] 154)=w4 at *;have SO:Hid (∀ y,Only [g] w4 y→y.cell? ⟨w.heap.size,6,none⟩=some (.int .i64 n)∧y.cell? ⟨w.heap.size,8,none⟩=some (.slice fl.a fl.xs.length fl.c)∧y.cell? ⟨w.heap.size,9,none⟩=some (.int .i64 sc)):=Ξ fun y ky=>by have h:=A4.out.row.only ky (by have:=A4.out.g2;simp;omega);exact ⟨h.cell 6,h.cell 8,h.cell 9⟩
 clear l4;have D1:=Ξ (A4.out.d C1.out (by simp));have D2:=Ξ (A4.out.d C2.out (by simp));have D3:=Ξ (A4.out.d C3.out LG3.out);have Z0:=Ξ A4.out.z;go_region_held3 (fun y=>y.cell? ⟨w.heap.size,6,none⟩=some (.int .i64 n)∧y.cell? ⟨w.heap.size,8,none⟩=some (.slice fl.a fl.xs.length fl.c)∧y.cell? ⟨w.heap.size,9,none⟩=some (.int .i64 sc))
  (first
   | exact SO.out _ X9.out.2
   | exact SO.out _ (((Ω [g] w4).below Z3.out.2).alloc _)
   | exact SO.out _ ((Ω [g] w4).below Z3.out.2)
   | exact SO.out _ ((Ω [g] w4).below Z2.out.2)
   | exact SO.out _ ((Ω [g] w4).below Z1.out.2)
   | exact SO.out _ ((Ω [g] w4).below Z0.out.2))
  (first
   | ((with_reducible refine (D1.out _ w4.drew Z0.out).mono ?_);rintro _ z1 ⟨f1,cap1,rfl,hz,hb⟩;have Z1:=Ξ (Ψ hz hb);clear hz hb)
   | ((with_reducible refine (D2.out _ z1 Z1.out).mono ?_);rintro _ z2 ⟨f2,cap2,rfl,hz,hb⟩;have Z2:=Ξ (Ψ hz hb);clear hz hb)
   | ((with_reducible refine (D3.out _ z2 Z2.out).mono ?_);rintro _ z3 ⟨f3,cap3,rfl,hz,hb⟩;have Z3:=Ξ (Ψ hz hb);clear hz hb)
   | (obtain ⟨v9,w9,run9,x9⟩:=A4.out.app Z3.out [.func (.func f1) #[] cap1,.func (.func f2) #[] cap2,.func (.func f3) #[] cap3] (by simp [Value.oneCell']) 3 rfl (by decide);have X9:=Ξ x9;refine step_append_eq rfl (.tmp 77) (.tmp 87) 156 rfl (.slice (some ⟨g,0,none⟩) 1 1) (.slice (some ⟨z3.heap.size,0,none⟩) 3 3) v9 w9 (by simp [Act.eval,Act.put]) (by simp [Act.eval,Act.put]) run9 ?_;clear run9 x9)
   | fail)
 all_goals
  have AL:=Ξ (A4.out.fin X9.out Z3.out (by simp) (by simp) HLN.out (by simp));go_wp2_with fail;refine AL.out.mono ?_;rintro _ w7 ⟨v,rfl,n7⟩;have N7:=Ξ n7;clear n7 AL;go_wp2_with fail;go_ret2;exact N7.out
theorem infoU64q:(prog.info? 34).map (fun i=>(i.zero,i.size,i.bytes))=some (some (.int .u64 0),1,8):=by kernel_rfl
def lstF(size:Nat)(xs:List Int)(e:Int):List Int×List Int×Int:=if (4096:Int)<(uvF xs e).1∨(uvF xs e).2.1.length<(uvF xs e).1.toNat * size then ([],(uvF xs e).2.1,(uvF xs e).2.2) else (nums size (uvF xs e).1.toNat (uvF xs e).2.1,(uvF xs e).2.1.drop (size * (uvF xs e).1.toNat),(uvF xs e).2.2)
theorem uvF_by{xs:List Int}(h:IsBy xs)(e:Int):IsBy (uvF xs e).2.1:=by
 unfold uvF;split
 ·exact h
 ·split
  ·exact h.drop _
  ·exact h
theorem uvF_len(xs:List Int)(e:Int):(uvF xs e).2.1.length≤xs.length:=by
 unfold uvF;split
 ·exact Θ _
 ·split
  ·simp
  ·exact Θ _
theorem uvF_nonneg(xs:List Int)(e:Int)(h:IsBy xs):0≤(uvF xs e).1:=by
 unfold uvF;split
 ·simp
 ·split
  ·exact cnt_nonneg xs 0 0 h (by omega)
  ·simp
theorem uvF_lt(xs:List Int)(e:Int)(h:IsBy xs):(uvF xs e).1<18446744073709551616:=by
 unfold uvF;split
 ·simp
 ·split
  ·exact cnt_lt xs 0 0 h (by omega) (by omega) (by omega)
  ·simp
theorem uvF_err(xs:List Int)(e:Int)(h:(uvF xs e).2.2≠0):(uvF xs e).1=0:=by
 unfold uvF at h ⊢;split
 ·rfl
 ·rename_i h1
  rw [if_neg h1] at h;split
  ·rename_i h2
   rw [if_pos h2] at h;simp at h
  ·rfl
theorem wrap_i32{n:Int}(h0:0≤n)(h1:n<4294967296):IntKind.i32.wrap n=i32 n:=by unfold i32;show (if (true && decide (n % 4294967296≥2147483648))=true then n % 4294967296-4294967296 else n % 4294967296)=_;rw [show n % 4294967296=n by omega];simp only [Bool.true_and,decide_eq_true_eq];split<;>split<;>omega
theorem fixF_range(k:Nat)(xs:List Int)(e:Int)(hb:IsBy xs):0≤(fixF k xs e).1∧(fixF k xs e).1<256 ^ k:=by
 have hp:(0:Int)<256 ^ k:=Int.pow_pos (by omega);unfold fixF;split
 ·exact ⟨by simp,hp⟩
 ·split
  ·exact ⟨by simp,hp⟩
  ·have h:=leV_lt (xs.take k) (hb.take k)
   rwa [List.length_take,Nat.min_eq_left (by omega)] at h
theorem one32_on{r cr:Nat}{xs:List Int}{e:Int}{w:World}(h:RdrAt w r xs e)(hb:IsBy xs)(hc:w.cell? ⟨cr,0,none⟩=some (.pointer (some ⟨r,0,none⟩))) :
  Calls prog 135 #[.pointer (some ⟨cr,0,none⟩)] w fun z w'=>z=.returned (.int .i32 (i32 (fixF 4 xs e).1))∧RdrAt w' r (fixF 4 xs e).2.1 (fixF 4 xs e).2.2∧Only [r] w w':=by
 have U:=Ξ (rdU32 h hb);have e1:IntKind.i32.wrap (fixF 4 xs e).1=i32 (fixF 4 xs e).1:=by have h1:=fixF_range 4 xs e hb;exact wrap_i32 h1.1 (by have:=h1.2;omega)
 clear h hb;go_enter func135,ntmps135;go_wp2_with fail;refine U.out.mono ?_;rintro _ w1 ⟨rfl,hr,ho⟩;have N:=Ξ (Ψ hr ho);clear hr ho U hc;go_wp2_with fail;go_ret;exact ⟨rfl,N.out.1,N.out.2⟩
def list32To(r B:Nat)(xs:List Int)(e:Int)(w:World)(z:Ending)(w':World):Prop:=∃ a n c,z=.returned (.slice a n c)∧SlRd .i32 w' ⟨a,c,(lstF 4 xs e).1.map i32⟩∧((lstF 4 xs e).1.map i32).length=n∧(∀ b∈(Sl.mk a c ((lstF 4 xs e).1.map i32)).bs,B≤b)∧RdrAt w' r (lstF 4 xs e).2.1 (lstF 4 xs e).2.2∧Only [r] w w'
theorem list32_on{r cr:Nat}{xs:List Int}{e:Int}{w:World}(h:RdrAt w r xs e)(hb:IsBy xs)(hl:xs.length≤1000000)(hc:w.cell? ⟨cr,0,none⟩=some (.pointer (some ⟨r,0,none⟩)))(hcr:cr≠r) :
  Calls prog 134 #[.pointer (some ⟨r,0,none⟩),.int .i64 4,.int .i64 4096,.func (.func 135) #[] #[.pointer (some ⟨cr,0,none⟩)]] w (list32To r w.heap.size xs e w):=by
 obtain ⟨i0',hi0,hz0,hz1,hz2⟩:=info_parts infoI32;have UV:=Ξ (uv_gen h hb);have hrl:=Ξ (show r<w.heap.size by obtain ⟨s,_,hr,_⟩:=h.at_;exact hr.lt);have hUB:IsBy (uvF xs e).2.1:=uvF_by hb e;have hUL:(uvF xs e).2.1.length≤xs.length:=uvF_len xs e;have hN0:=uvF_nonneg xs e hb;have hN1:=uvF_lt xs e hb;have hE:=uvF_err xs e;obtain ⟨m,hm⟩:∃ m:Nat,(uvF xs e).1=(m:Int):=Int.eq_ofNat_of_zero_le hN0;unfold UvTo at UV;obtain ⟨ys,hys⟩:∃ ys,(uvF xs e).2.1=ys:=⟨_,rfl⟩;obtain ⟨e1,he1⟩:∃ e1,(uvF xs e).2.2=e1:=⟨_,rfl⟩;rw [hm,hys,he1] at UV;rw [hm,he1] at hE;rw [hm] at hN1;rw [hys] at hUB hUL;have HF:Hid (lstF 4 xs e=if (4096:Int)<(m:Int)∨ys.length<m * 4 then ([],ys,e1) else (nums 4 m ys,ys.drop (4 * m),e1)):=Ξ (by unfold lstF;rw [hm,hys,he1];simp only [Int.toNat_natCast])
 obtain ⟨n,hn⟩:∃ n,ys.length=n:=⟨_,rfl⟩;have HYS:Hid (IsBy ys∧ys.length=n∧n≤1000000∧(m:Int)<18446744073709551616∧(e1≠0→m=0)):=Ξ ⟨hUB,hn,by omega,hN1,fun hh=>by have:=hE hh;omega⟩;have LF:Hid (∀ y,RdrAt y r ys e1→Calls prog 171 #[.pointer (some ⟨r,0,none⟩)] y fun z w'=>z=.returned (.int .i64 (n:Int))∧w'=y):=Ξ fun y hy=>by rw [←hn];exact left_on hy
 have DONE:Hid (∀ y,RdrAt y r ys e1→Only [r] w y→((4096:Int)<(m:Int)∨ys.length<m * 4)→list32To r w.heap.size xs e w (.returned (.slice none 0 0)) y):=Ξ fun y h1 h2 h3=>by unfold list32To;rw [HF.out,if_pos h3];exact ⟨none,0,0,rfl,SlRd.no _ _,rfl,by simp [Sl.bs],h1,h2⟩
 have w4096:IntKind.u64.wrap (4096:Int)=4096:=rfl;have HC:Hid (∀ y,Only [r] w y→y.cell? ⟨cr,0,none⟩=some (.pointer (some ⟨r,0,none⟩))):=Ξ fun y k=>by rw [k.cell (World.block_lt_of_cell? w ⟨cr,0,none⟩ hc) (by simp;exact hcr)];exact hc
 clear hc hcr;clear h hb hl hUB hUL hN0 hN1 hE hm hys he1 hn;go_enter func134,ntmps134;go_wp2_with fail;refine UV.out.mono ?_;rintro _ w1 ⟨rfl,hr1,ho1⟩;have H1:Hid (RdrAt w1 r ys e1∧Only [r] w w1):=Ξ ⟨hr1,ho1⟩;clear hr1 ho1 UV;by_cases hbig:4096<m
 ·have d1:decide ((4096:Int)<(m:Int))=true:=Γ (by omega);have d1':decide (4096<m)=true:=Γ hbig;have N:=Ξ (DONE.out w1 H1.out.1 H1.out.2 (.inl (by omega)));clear hbig;go_wp2_with fail;go_ret;exact N.out
 ·have d1:decide ((4096:Int)<(m:Int))=false:=Λ (by omega);have d1':decide (4096<m)=false:=Λ hbig;have wm:IntKind.i64.wrap (m:Int)=(m:Int):=IntWalk.i64_in _ (by omega);have wm2:IntKind.i64.wrap ((m:Int) * 4)=((m * 4:Nat):Int):=by rw [show (m:Int) * 4=((m * 4:Nat):Int) by omega];exact IntWalk.i64_in _ (by omega)
  obtain ⟨q,hq⟩:∃ q,m * 4=q:=⟨_,rfl⟩;rw [hq] at wm2;have HM:Hid (m≤4096∧m * 4=q):=Ξ ⟨by omega,hq⟩;clear hbig hq;by_cases hsh:n<q
  ·have d2:decide ((n:Int)<(q:Int))=true:=Γ (by omega);have d2':decide (n<q)=true:=Γ hsh;have N:=Ξ (DONE.out w1 H1.out.1 H1.out.2 (.inr (by rw [HYS.out.2.1,HM.out.2];exact hsh)));clear hsh;go_wp2_with fail;refine (LF.out w1 H1.out.1).mono ?_;rintro _ w' ⟨rfl,hw'⟩;subst w';go_wp2_with fail;go_ret;exact N.out
  ·have d2:decide ((n:Int)<(q:Int))=false:=Λ (by omega);have d2':decide (n<q)=false:=Λ hsh;have HQ:=Ξ (Nat.le_of_not_lt hsh);clear hsh;go_wp2_with fail;refine (LF.out w1 H1.out.1).mono ?_;rintro _ w' ⟨rfl,hw'⟩;subst w';have RG:Hid (r<w.heap.size∧w.heap.size≤w1.heap.size):=Ξ ⟨hrl.out,H1.out.2.size⟩;clear LF;go_wp2_with fail;go_loopw [10,27] (fun v u wr=>∃ i:Nat,u=.int .u64 (i:Int)∧Hid (i≤m)∧Hid (wr.ownsRow w.heap.size 21 1 v i (((nums 4 i ys).map i32).map (Value.int .i32))∧RdrAt wr r (ys.drop (4 * i)) e1∧Only [r] w wr)) (fun _ u _=>m-(intOf u).toNat)
   case atStart=>exact ⟨0,rfl,Ξ (by omega),Ξ ⟨by simpa [nums] using World.ownsRow_nil _ _ _ _,by simpa using H1.out.1,H1.out.2⟩⟩
   case round=>
    obtain ⟨i,rfl,HI,HV⟩:=hrel;rename World=>w3;have ej:IntKind.u64.wrap ((i:Int)+1)=((i+1:Nat):Int):=by rw [show IntKind.u64.wrap ((i:Int)+1)=((i:Int)+1) % 18446744073709551616 from rfl];have:=HI.out;have:=HM.out;omega
    by_cases hlt:i<m
    ·have d3:decide ((i:Int)<(m:Int))=true:=Γ (by omega);have d3':decide (i<m)=true:=Γ hlt;have HLT:=Ξ hlt;have E0:Hid (e1=0):=Ξ (Classical.byContradiction fun hh=>by have:=HYS.out.2.2.2.2 hh;omega);have FX:Hid (fixF 4 (ys.drop (4 * i)) e1=(leV ((ys.drop (4 * i)).take 4),ys.drop (4 * (i+1)),e1)):=Ξ (by unfold fixF;rw [E0.out,if_neg (by simp),if_neg (by rw [List.length_drop,HYS.out.2.1];have:=HQ.out;have:=HM.out.2;omega),List.drop_drop,Nat.mul_succ])
     have hV:0≤leV ((ys.drop (4 * i)).take 4)∧leV ((ys.drop (4 * i)).take 4)<256 ^ 4:=by
      have h1:=leV_lt ((ys.drop (4 * i)).take 4) ((HYS.out.1.drop _).take _)
      rwa [List.length_take,List.length_drop,HYS.out.2.1,show min 4 (n-4 * i)=4 by have:=HQ.out;have:=HM.out.2;omega] at h1
     have NS:=Ξ (nums_succ 4 i ys);have CL:Hid (Calls prog 135 #[.pointer (some ⟨cr,0,none⟩)] w3 fun zz w'=>zz=.returned (.int .i32 (i32 (leV ((ys.drop (4 * i)).take 4))))∧RdrAt w' r (ys.drop (4 * (i+1))) e1∧Only [r] w3 w'):=Ξ (by
      have h:=one32_on (cr:=cr) HV.out.2.1 (HYS.out.1.drop _) (HC.out w3 HV.out.2.2)
      rwa [FX.out] at h)
     generalize leV ((ys.drop (4 * i)).take 4)=z at *;skip;have HZ:=Ξ hV;clear hlt hV;go_wp2_with fail;refine CL.out.mono ?_;rintro _ w4 ⟨rfl,hr4,ho4⟩;have O4:Hid (Only [r] w w4):=Ξ (HV.out.2.2.trans ho4 (fun b hb=>.inl hb));have OW4:Hid (w4.ownsRow w.heap.size 21 1 u10 i (((nums 4 i ys).map i32).map (Value.int .i32))):=Ξ (own_keep HV.out.1 fun b hb=>ho4.block b (HV.out.1.lt b hb).2 (by have:=(HV.out.1.lt b hb).1;have:=RG.out;simp;omega));have R4:Hid (RdrAt w4 r (ys.drop (4 * (i+1))) e1):=Ξ hr4;clear hr4 ho4 CL;go_wp2_with (at_builtin;refine wpList_append_at rfl (.tmp 29) (.tmp 32) 35 rfl w.heap.size 21 i0' (.int .i32 0) 1 4 underlying35 hi0 hz0 hz1 hz2 rfl (by decide) u10 i _ rfl (OW4.out.alloc _) ⟨w4.heap.size,0,none⟩ 1 1 [.int .i32 (i32 z)] rfl rfl (fun q u hq=>by rcases q with _|q<;>simp at hq<;>subst hq<;>simp [go_sem]) (by simp [Value.oneCell']) (by unfold maxLen;have:=HLT.out;have:=HM.out;omega) (by have:=HLT.out;have:=HM.out;omega) (by have:=O4.out.size;simp;omega) ?more);case more=>
      intro v5 w5 hown5 hg5 hf5;have k5:Only u10.ownBlock.toList w4 w5:=((Ω _ w4).alloc _).grown hg5 (fun k hk=>.inl (by simp [hk]));have F5:Hid (w5.ownsRow w.heap.size 21 1 v5 (i+1) (((nums 4 (i+1) ys).map i32).map (Value.int .i32))∧RdrAt w5 r (ys.drop (4 * (i+1))) e1∧Only [r] w w5):=Ξ ⟨by rw [NS.out];simpa using hown5,R4.out.behind k5 (fun b hb=>by have:=(OW4.out.lt b (by simpa using hb)).1;have:=RG.out;omega),O4.out.trans k5 (fun b hb=>.inr (by have:=(OW4.out.lt b (by simpa using hb)).1;omega))⟩;clear hown5 hg5 hf5 k5;go_wp2_with fail;go_roundw;case rel=>exact ⟨i+1,by go_num,Ξ (by have:=HLT.out;omega),F5⟩
      case measure=>have:=HLT.out;simp [intOf];omega
    ·have d3:decide ((i:Int)<(m:Int))=false:=Λ (by omega);have d3':decide (i<m)=false:=Λ hlt;have N:Hid (list32To r w.heap.size xs e w (.returned u10) w3):=Ξ (by
      have hi:i=m:=by have:=HI.out;omega
      subst hi;have h1:=HV.out;obtain ⟨s,e1',e2,h3,h4⟩:=SlAt.of_own (xs:=(nums 4 i ys).map i32) h1.1 (by rw [List.length_map,nums_len];have:=HM.out;omega);obtain ⟨a,c,zs⟩:=s;subst e2;unfold list32To;rw [HF.out,if_neg (by rw [HYS.out.2.1,HM.out.2];have:=HQ.out;have:=HM.out;omega)];exact ⟨a,_,c,by rw [e1'];rfl,h3.rd,rfl,h4,h1.2.1,h1.2.2⟩)
     clear hlt;go_wp2_with fail;go_ret;exact N.out
def list64To(r B:Nat)(xs:List Int)(e:Int)(w:World)(z:Ending)(w':World):Prop:=∃ a n c,z=.returned (.slice a n c)∧SlRd .u64 w' ⟨a,c,(lstF 8 xs e).1.map (fun x=>x)⟩∧((lstF 8 xs e).1.map (fun x=>x)).length=n∧(∀ b∈(Sl.mk a c ((lstF 8 xs e).1.map (fun x=>x))).bs,B≤b)∧RdrAt w' r (lstF 8 xs e).2.1 (lstF 8 xs e).2.2∧Only [r] w w'
theorem list64_on{r cr:Nat}{xs:List Int}{e:Int}{w:World}(h:RdrAt w r xs e)(hb:IsBy xs)(hl:xs.length≤1000000)  :
  Calls prog 138 #[.pointer (some ⟨r,0,none⟩),.int .i64 8,.int .i64 4096,.func (.func 108) #[.pointer (some ⟨r,0,none⟩)] #[]] w (list64To r w.heap.size xs e w):=by
 obtain ⟨i0',hi0,hz0,hz1,hz2⟩:=info_parts infoU64q;have UV:=Ξ (uv_gen h hb);have hrl:=Ξ (show r<w.heap.size by obtain ⟨s,_,hr,_⟩:=h.at_;exact hr.lt);have hUB:IsBy (uvF xs e).2.1:=uvF_by hb e;have hUL:(uvF xs e).2.1.length≤xs.length:=uvF_len xs e;have hN0:=uvF_nonneg xs e hb;have hN1:=uvF_lt xs e hb;have hE:=uvF_err xs e;obtain ⟨m,hm⟩:∃ m:Nat,(uvF xs e).1=(m:Int):=Int.eq_ofNat_of_zero_le hN0;unfold UvTo at UV;obtain ⟨ys,hys⟩:∃ ys,(uvF xs e).2.1=ys:=⟨_,rfl⟩;obtain ⟨e1,he1⟩:∃ e1,(uvF xs e).2.2=e1:=⟨_,rfl⟩;rw [hm,hys,he1] at UV;rw [hm,he1] at hE;rw [hm] at hN1;rw [hys] at hUB hUL;have HF:Hid (lstF 8 xs e=if (4096:Int)<(m:Int)∨ys.length<m * 8 then ([],ys,e1) else (nums 8 m ys,ys.drop (8 * m),e1)):=Ξ (by unfold lstF;rw [hm,hys,he1];simp only [Int.toNat_natCast])
 obtain ⟨n,hn⟩:∃ n,ys.length=n:=⟨_,rfl⟩;have HYS:Hid (IsBy ys∧ys.length=n∧n≤1000000∧(m:Int)<18446744073709551616∧(e1≠0→m=0)):=Ξ ⟨hUB,hn,by omega,hN1,fun hh=>by have:=hE hh;omega⟩;have LF:Hid (∀ y,RdrAt y r ys e1→Calls prog 171 #[.pointer (some ⟨r,0,none⟩)] y fun z w'=>z=.returned (.int .i64 (n:Int))∧w'=y):=Ξ fun y hy=>by rw [←hn];exact left_on hy
 have DONE:Hid (∀ y,RdrAt y r ys e1→Only [r] w y→((4096:Int)<(m:Int)∨ys.length<m * 8)→list64To r w.heap.size xs e w (.returned (.slice none 0 0)) y):=Ξ fun y h1 h2 h3=>by unfold list64To;rw [HF.out,if_pos h3];exact ⟨none,0,0,rfl,SlRd.no _ _,rfl,by simp [Sl.bs],h1,h2⟩
 have w4096:IntKind.u64.wrap (4096:Int)=4096:=rfl;skip;clear h hb hl hUB hUL hN0 hN1 hE hm hys he1 hn;go_enter func138,ntmps138;go_wp2_with fail;refine UV.out.mono ?_;rintro _ w1 ⟨rfl,hr1,ho1⟩;have H1:Hid (RdrAt w1 r ys e1∧Only [r] w w1):=Ξ ⟨hr1,ho1⟩;clear hr1 ho1 UV;by_cases hbig:4096<m
 ·have d1:decide ((4096:Int)<(m:Int))=true:=Γ (by omega);have d1':decide (4096<m)=true:=Γ hbig;have N:=Ξ (DONE.out w1 H1.out.1 H1.out.2 (.inl (by omega)));clear hbig;go_wp2_with fail;go_ret;exact N.out
 ·have d1:decide ((4096:Int)<(m:Int))=false:=Λ (by omega);have d1':decide (4096<m)=false:=Λ hbig;have wm:IntKind.i64.wrap (m:Int)=(m:Int):=IntWalk.i64_in _ (by omega);have wm2:IntKind.i64.wrap ((m:Int) * 8)=((m * 8:Nat):Int):=by rw [show (m:Int) * 8=((m * 8:Nat):Int) by omega];exact IntWalk.i64_in _ (by omega)
  obtain ⟨q,hq⟩:∃ q,m * 8=q:=⟨_,rfl⟩;rw [hq] at wm2;have HM:Hid (m≤4096∧m * 8=q):=Ξ ⟨by omega,hq⟩;clear hbig hq;by_cases hsh:n<q
  ·have d2:decide ((n:Int)<(q:Int))=true:=Γ (by omega);have d2':decide (n<q)=true:=Γ hsh;have N:=Ξ (DONE.out w1 H1.out.1 H1.out.2 (.inr (by rw [HYS.out.2.1,HM.out.2];exact hsh)));clear hsh;go_wp2_with fail;refine (LF.out w1 H1.out.1).mono ?_;rintro _ w' ⟨rfl,hw'⟩;subst w';go_wp2_with fail;go_ret;exact N.out
  ·have d2:decide ((n:Int)<(q:Int))=false:=Λ (by omega);have d2':decide (n<q)=false:=Λ hsh;have HQ:=Ξ (Nat.le_of_not_lt hsh);clear hsh;go_wp2_with fail;refine (LF.out w1 H1.out.1).mono ?_;rintro _ w' ⟨rfl,hw'⟩;subst w';have RG:Hid (r<w.heap.size∧w.heap.size≤w1.heap.size):=Ξ ⟨hrl.out,H1.out.2.size⟩;clear LF;go_wp2_with fail;go_loopw [10,27] (fun v u wr=>∃ i:Nat,u=.int .u64 (i:Int)∧Hid (i≤m)∧Hid (wr.ownsRow w.heap.size 34 1 v i (((nums 8 i ys).map (fun x=>x)).map (Value.int .u64))∧RdrAt wr r (ys.drop (8 * i)) e1∧Only [r] w wr)) (fun _ u _=>m-(intOf u).toNat)
   case atStart=>exact ⟨0,rfl,Ξ (by omega),Ξ ⟨by simpa [nums] using World.ownsRow_nil _ _ _ _,by simpa using H1.out.1,H1.out.2⟩⟩
   case round=>
    obtain ⟨i,rfl,HI,HV⟩:=hrel;rename World=>w3;have ej:IntKind.u64.wrap ((i:Int)+1)=((i+1:Nat):Int):=by rw [show IntKind.u64.wrap ((i:Int)+1)=((i:Int)+1) % 18446744073709551616 from rfl];have:=HI.out;have:=HM.out;omega
    by_cases hlt:i<m
    ·have d3:decide ((i:Int)<(m:Int))=true:=Γ (by omega);have d3':decide (i<m)=true:=Γ hlt;have HLT:=Ξ hlt;have E0:Hid (e1=0):=Ξ (Classical.byContradiction fun hh=>by have:=HYS.out.2.2.2.2 hh;omega);have FX:Hid (fixF 8 (ys.drop (8 * i)) e1=(leV ((ys.drop (8 * i)).take 8),ys.drop (8 * (i+1)),e1)):=Ξ (by unfold fixF;rw [E0.out,if_neg (by simp),if_neg (by rw [List.length_drop,HYS.out.2.1];have:=HQ.out;have:=HM.out.2;omega),List.drop_drop,Nat.mul_succ])
     have hV:0≤leV ((ys.drop (8 * i)).take 8)∧leV ((ys.drop (8 * i)).take 8)<256 ^ 8:=by
      have h1:=leV_lt ((ys.drop (8 * i)).take 8) ((HYS.out.1.drop _).take _)
      rwa [List.length_take,List.length_drop,HYS.out.2.1,show min 8 (n-8 * i)=8 by have:=HQ.out;have:=HM.out.2;omega] at h1
     have NS:=Ξ (nums_succ 8 i ys);have CL:Hid (Calls prog 108 #[.pointer (some ⟨r,0,none⟩)] w3 fun zz w'=>zz=.returned (.int .u64 (leV ((ys.drop (8 * i)).take 8)))∧RdrAt w' r (ys.drop (8 * (i+1))) e1∧Only [r] w3 w'):=Ξ (by
      have h:=rdU64 HV.out.2.1 (HYS.out.1.drop _)
      rwa [FX.out] at h)
     generalize leV ((ys.drop (8 * i)).take 8)=z at *;skip;have HZ:=Ξ hV;clear hlt hV;go_wp2_with fail;refine CL.out.mono ?_;rintro _ w4 ⟨rfl,hr4,ho4⟩;have O4:Hid (Only [r] w w4):=Ξ (HV.out.2.2.trans ho4 (fun b hb=>.inl hb));have OW4:Hid (w4.ownsRow w.heap.size 34 1 u10 i (((nums 8 i ys).map (fun x=>x)).map (Value.int .u64))):=Ξ (own_keep HV.out.1 fun b hb=>ho4.block b (HV.out.1.lt b hb).2 (by have:=(HV.out.1.lt b hb).1;have:=RG.out;simp;omega));have R4:Hid (RdrAt w4 r (ys.drop (8 * (i+1))) e1):=Ξ hr4;clear hr4 ho4 CL;go_wp2_with (at_builtin;refine wpList_append_at rfl (.tmp 29) (.tmp 32) 48 rfl w.heap.size 34 i0' (.int .u64 0) 1 8 underlying48 hi0 hz0 hz1 hz2 rfl (by decide) u10 i _ rfl (OW4.out.alloc _) ⟨w4.heap.size,0,none⟩ 1 1 [.int .u64 ((fun x=>x) z)] rfl rfl (fun q u hq=>by rcases q with _|q<;>simp at hq<;>subst hq<;>simp [go_sem]) (by simp [Value.oneCell']) (by unfold maxLen;have:=HLT.out;have:=HM.out;omega) (by have:=HLT.out;have:=HM.out;omega) (by have:=O4.out.size;simp;omega) ?more);case more=>
      intro v5 w5 hown5 hg5 hf5;have k5:Only u10.ownBlock.toList w4 w5:=((Ω _ w4).alloc _).grown hg5 (fun k hk=>.inl (by simp [hk]));have F5:Hid (w5.ownsRow w.heap.size 34 1 v5 (i+1) (((nums 8 (i+1) ys).map (fun x=>x)).map (Value.int .u64))∧RdrAt w5 r (ys.drop (8 * (i+1))) e1∧Only [r] w w5):=Ξ ⟨by rw [NS.out];simpa using hown5,R4.out.behind k5 (fun b hb=>by have:=(OW4.out.lt b (by simpa using hb)).1;have:=RG.out;omega),O4.out.trans k5 (fun b hb=>.inr (by have:=(OW4.out.lt b (by simpa using hb)).1;omega))⟩;clear hown5 hg5 hf5 k5;go_wp2_with fail;go_roundw;case rel=>exact ⟨i+1,by go_num,Ξ (by have:=HLT.out;omega),F5⟩
      case measure=>have:=HLT.out;simp [intOf];omega
    ·have d3:decide ((i:Int)<(m:Int))=false:=Λ (by omega);have d3':decide (i<m)=false:=Λ hlt;have N:Hid (list64To r w.heap.size xs e w (.returned u10) w3):=Ξ (by
      have hi:i=m:=by have:=HI.out;omega
      subst hi;have h1:=HV.out;obtain ⟨s,e1',e2,h3,h4⟩:=SlAt.of_own (xs:=(nums 8 i ys).map (fun x=>x)) h1.1 (by rw [List.length_map,nums_len];have:=HM.out;omega);obtain ⟨a,c,zs⟩:=s;subst e2;unfold list64To;rw [HF.out,if_neg (by rw [HYS.out.2.1,HM.out.2];have:=HQ.out;have:=HM.out;omega)];exact ⟨a,_,c,by rw [e1'];rfl,h3.rd,rfl,h4,h1.2.1,h1.2.2⟩)
     clear hlt;go_wp2_with fail;go_ret;exact N.out
end Go.Proofs.YtcgmgdjeamidlaaGreat
namespace Go.Proofs.YtcgmgdjeamidlaaGreat
set_option maxRecDepth 100000
set_option maxHeartbeats 16000000
set_option linter.unusedVariables false
set_option linter.unusedSimpArgs false
@[ext] structure Qc where
 kind:Int
 ik:Int
 vec:List Int
 tag:List Int
 key:Int
 hi:Int
 n:Int
 q:List Int
 fl:List Int
 sc:Int
def Rq.c(x:Rq):Qc:=⟨x.kind,x.it.key,x.it.vec.xs,x.it.tag.xs,x.key,x.hi,x.n,x.q.xs,x.fl.xs,x.scale⟩
def Qc.bare(k:Int):Qc:=⟨k,0,[],[],0,0,0,[],[],0⟩
def i8(u:Int):Int:=if u<128 then u else u-256
def Qc.form(c:Qc):List Int:=
 if c.kind=2 then [2]++itemB (c.ik,c.vec,c.tag)
 else if c.kind=3∨c.kind=4 then [c.kind]++leB c.key 8
 else if c.kind=5 then [5]++leB c.key 8++leB c.hi 8++[c.n]
 else if c.kind=6 then [6]++[c.n]++(uvB c.q.length++vecB c.q)
 else if c.kind=10 then [10]++leB c.ik 8++[c.sc % 256]++(uvB c.fl.length++flsB c.fl)++textB c.tag
 else if c.kind=11 then [11]++[c.n]++[c.sc % 256]++(uvB c.fl.length++flsB c.fl)
 else [c.kind]
def Qc.may(c:Qc):Bool:=
 if c.kind=2 then decide (0<c.vec.length)
 else if c.kind=3∨c.kind=4 then true
 else if c.kind=5∨c.kind=6 then decide (c.n≤50)
 else if c.kind=10 then decide (-64≤c.sc) && decide (c.sc≤64)
 else if c.kind=11 then decide (c.n≤50) && (decide (-64≤c.sc) && decide (c.sc≤64))
 else decide (c.kind=1∨c.kind=7∨c.kind=8∨c.kind=9)
def rdItem(b:List Int):Option (Int×List Int×List Int):=
 let a:=fixF 8 b 0
 let l:=lstF 4 a.2.1 a.2.2
 let n:=uvF a.2.1 a.2.2
 if (4096:Int)<n.1∨n.2.1.length<n.1.toNat * 4 then none
 else
  let t:=txtF 1024 l.2.1 l.2.2
  if t.2.2≠0∨0<t.2.1.length∨l.1.length=0 then none else some (a.1,l.1.map i32,t.1)
def putC(o:Option (Int×List Int×List Int)):Qc:=match o with
 | some i=>⟨2,i.1,i.2.1,i.2.2,0,0,0,[],[],0⟩
 | none=>Qc.bare 2
def readQ(b:List Int):Qc:=
 let k:=(fixF 1 b 0).1
 let xs:=(fixF 1 b 0).2.1
 let e:=(fixF 1 b 0).2.2
 if k=2 then putC (rdItem (b.drop 1))
 else if k=3∨k=4 then { Qc.bare k with key:=(fixF 8 xs e).1 }
 else if k=5 then
  let a:=fixF 8 xs e
  let c:=fixF 8 a.2.1 a.2.2
  { Qc.bare 5 with key:=a.1,hi:=c.1,n:=(fixF 1 c.2.1 c.2.2).1 }
 else if k=6 then
  let a:=fixF 1 xs e
  { Qc.bare 6 with n:=a.1,q:=(lstF 4 a.2.1 a.2.2).1.map i32 }
 else if k=10 then
  let a:=fixF 8 xs e
  let c:=fixF 1 a.2.1 a.2.2
  let l:=lstF 8 c.2.1 c.2.2
  { Qc.bare 10 with ik:=a.1,sc:=i8 c.1,fl:=l.1,tag:=(txtF 1024 l.2.1 l.2.2).1 }
 else if k=11 then
  let a:=fixF 1 xs e
  let c:=fixF 1 a.2.1 a.2.2
  { Qc.bare 11 with n:=a.1,sc:=i8 c.1,fl:=(lstF 8 c.2.1 c.2.2).1 }
 else Qc.bare k
def askQ(b:List Int):Option Qc:=if (readQ b).may=true∧(readQ b).form=b then some (readQ b) else none
/-! ### reading forms -/
theorem fixF_le(k:Nat)(n:Int)(h0:0≤n)(h1:n<256 ^ k)(rest:List Int):fixF k (leB n k++rest) 0=(n,rest,0):=by unfold fixF;rw [if_neg (by simp),if_neg (by simp [leB_len]),List.take_append_of_le_length (by simp [leB_len]),List.take_of_length_le (by simp [leB_len]),leV_leB k n h0 h1,List.drop_append_of_le_length (by simp [leB_len]),List.drop_of_length_le (by simp [leB_len]),List.nil_append]
theorem fixF_one(n:Int)(h0:0≤n)(h1:n<256)(rest:List Int):fixF 1 ([n]++rest) 0=(n,rest,0):=by
 have h:=fixF_le 1 n h0 (by omega) rest
 rwa [show leB n 1=[n] by simp [leB,leAt];omega] at h
theorem uvF_uvB(n:Nat)(h:n<18446744073709551616)(rest:List Int):uvF (uvB n++rest) 0=((n:Int),rest,0):=by unfold uvF;have h1:=cnt_uvB rest n 0 0 (by omega) (.inl rfl);rw [if_neg (by simp),h1];simp
theorem txtF_text(most:Nat)(s rest:List Int)(h:s.length≤most)(hm:most≤1000000):txtF most (textB s++rest) 0=(s,rest,0):=by unfold txtF textB;have h1:=cnt_uvB (s++rest) s.length 0 0 (by omega) (.inl rfl);rw [List.append_assoc,if_neg (by simp),h1];simp only [if_true,Int.pow_zero,Int.mul_one,Int.zero_add,Int.natCast_zero];rw [if_neg (by omega),if_neg (by simp only [List.length_append];omega)];simp
theorem lstF_form(size:Nat)(f:Int→List Int)(g:Int→Int)(l rest:List Int)(hf:∀ x,(f x).length=size)(hl:l.length≤4096)(hg:∀ x∈l,leV (f x)=g x):lstF size (uvB l.length++(l.flatMap f++rest)) 0=(l.map g,rest,0):=by have hfl:=fm_len f size hf l;unfold lstF;rw [uvF_uvB l.length (by omega)];simp only [Int.toNat_natCast];rw [if_neg (by simp only [List.length_append,hfl];rw [Nat.mul_comm];omega),nums_fm f g size hf l rest hg,List.drop_append_of_le_length (by omega),List.drop_of_length_le (by omega),List.nil_append]
theorem lst4_form(l rest:List Int)(hl:l.length≤4096)(hr:∀ x∈l,-2147483648≤x∧x<2147483648):lstF 4 (uvB l.length++(vecB l++rest)) 0=(l.map u32,rest,0):=
 lstF_form 4 (fun v=>leB (u32 v) 4) u32 l rest (fun x=>leB_len _ _) hl fun x hx=>leV_leB 4 _ (by unfold u32;omega) (by unfold u32;omega)
theorem map_i32(l:List Int)(hr:∀ x∈l,-2147483648≤x∧x<2147483648):(l.map u32).map i32=l:=by
 rw [List.map_map];conv=>rhs;rw [←List.map_id l]
 exact List.map_congr_left fun x hx=>i32_u32 (hr x hx).1 (hr x hx).2
theorem rdItem_form(k:Int)(vec tag:List Int)(k0:0≤k)(k1:k<18446744073709551616)(v0:0<vec.length)(v1:vec.length≤4096)(vr:∀ x∈vec,-2147483648≤x∧x<2147483648)(t1:tag.length≤1024):rdItem (itemB (k,vec,tag))=some (k,vec,tag):=by unfold rdItem itemB;simp only [List.append_assoc];rw [fixF_le 8 k k0 (by omega)];simp only;rw [lst4_form vec (textB tag) v1 vr,uvF_uvB vec.length (by omega)];simp only [Int.toNat_natCast];have h:=txtF_text 1024 tag [] t1 (by omega);rw [List.append_nil] at h;rw [if_neg (by simp only [List.length_append,vecB_len];omega),h,if_neg (by simp;intro e;rw [e] at v0;simp at v0),map_i32 vec vr]
end Go.Proofs.YtcgmgdjeamidlaaGreat
