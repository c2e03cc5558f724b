/- Texts of one proof, joined. -/
import Derived.Test.YtcgmgdjeamidlaaGreatMg06
import Derived.Laws.Slices
import Derived.Deep.Upon
import Derived.Test.YtcgmgdjeamidlaaGreatMg05
import Derived.Laws.CopyOwn
namespace Go.Proofs.YtcgmgdjeamidlaaGreat
set_option maxRecDepth 100000
set_option maxHeartbeats 16000000
open Go.RowKit Go.ChangeShapes Go.WideShapes Go.ChangeAt Go.Proofs.Tryz
set_option linter.unusedVariables false
set_option linter.unusedSimpArgs false
def Sl.cut(s:Sl)(l h:Nat):Sl:=⟨if s.c=l then s.a else s.a.map (·.add l),s.c-l,(s.xs.drop l).take (h-l)⟩
theorem Sl.cut_bs(s:Sl)(l h:Nat):(s.cut l h).bs=s.bs:=by
 unfold Sl.cut Sl.bs;simp only;split
 ·rfl
 ·cases s.a with
  | none=>rfl
  | some a=>simp [Addr.add];split<;>rfl
theorem Sl.cut_len(s:Sl){l h:Nat}(hl:l≤h)(hh:h≤s.xs.length):(s.cut l h).xs.length=h-l:=by unfold Sl.cut;simp;omega
theorem sized1{P:Program}{t e:TypeId}(ht:P.underlying t=some (.slice e))(hz:(P.info? e).map (fun i=>(i.zero,i.size,i.bytes))=some (some (.int .u8 0),1,1))(w:World):P.underlying t=some (.slice (P.elem t))∧(sizeOf (P.elem t)).run P w=.ok 1 w:=by
 have he:P.elem t=e:=by simp [Program.elem,ht]
 refine ⟨by rw [he];exact ht,?_⟩;rw [he];obtain ⟨i,hi,h0,h1,h2⟩:=info_parts hz;simp [sizeOf,typeInfo,hi,h1]
theorem run_cut{P:Program}{t e:TypeId}(ht:P.underlying t=some (.slice e))(hz:(P.info? e).map (fun i=>(i.zero,i.size,i.bytes))=some (some (.int .u8 0),1,1))(k1 k2:IntKind)(s:Sl){l h:Nat}(hl:l≤h)(hh:h≤s.xs.length)(hc:s.xs.length≤s.c)(w:World) :
  (Instr.slice t (.slice s.a s.xs.length s.c) (some (.int k1 (l:Int))) (some (.int k2 (h:Int))) none).run P w=.ok (s.cut l h).v w:=by
 obtain ⟨h1,h2⟩:=sized1 ht hz w;rw [run_slice_lh w t s.a s.xs.length s.c h1 k1 k2 l h (by omega) (by omega) (by omega),h2];simp only [Result.andThen,sliced,Int.toNat_natCast,Nat.mul_one];unfold Sl.v;rw [Sl.cut_len s hl hh];rfl
theorem run_tail{P:Program}{t e:TypeId}(ht:P.underlying t=some (.slice e))(hz:(P.info? e).map (fun i=>(i.zero,i.size,i.bytes))=some (some (.int .u8 0),1,1))(k1:IntKind)(s:Sl){l:Nat}(hl:l≤s.xs.length)(w:World) :
  (Instr.slice t (.slice s.a s.xs.length s.c) (some (.int k1 (l:Int))) none none).run P w=.ok (s.cut l s.xs.length).v w:=by
 obtain ⟨h1,h2⟩:=sized1 ht hz w;rw [run_slice_l w t s.a s.xs.length s.c h1 k1 l (by omega) (by omega),h2];simp only [Result.andThen,sliced,Int.toNat_natCast,Nat.mul_one];unfold Sl.v;rw [Sl.cut_len s hl (Θ _)];rfl
theorem SlRd.cut{q:IntKind}{w:World}{s:Sl}(h:SlRd q w s){l k:Nat}(hl:l≤k)(hk:k≤s.xs.length)(hc:s.xs.length≤s.c):SlRd q w (s.cut l k):=by
 have hlen:=Sl.cut_len s hl hk;refine ⟨?_,fun hne b hb=>?_,fun ha=>?_,by have:=h.le;omega⟩
 ·rcases h.ints with ⟨h1,_⟩|⟨b,off,cap,e,hcell⟩
  ·have:(s.cut l k).xs=[]:=by unfold Sl.cut;simp [h1]
   refine .inl ⟨this,(s.cut l k).a,(s.cut l k).c,?_⟩;unfold Sl.v;rw [this];rfl
  ·unfold Sl.v at e;simp only [Value.slice.injEq] at e;by_cases h0:k-l=0
   ·have:(s.cut l k).xs=[]:=List.length_eq_zero_iff.1 (by omega);refine .inl ⟨this,(s.cut l k).a,(s.cut l k).c,?_⟩;unfold Sl.v;rw [this];rfl
   ·refine .inr ⟨b,off+l,s.c-l,?_,fun i hi=>?_⟩
    ·unfold Sl.v Sl.cut;simp only [Value.slice.injEq,and_true];rw [if_neg (by omega),e.1];simp [add_plain]
    ·rw [hlen] at hi;rw [Nat.add_assoc,hcell (l+i) (by omega)];unfold Sl.cut;simp only;rw [List.getElem?_take_of_lt hi,List.getElem?_drop]
 ·rw [Sl.cut_bs] at hb;refine h.lt (fun e=>hne ?_) b hb;unfold Sl.cut;simp [e]
 ·have hn:s.a=none:=by
   unfold Sl.cut at ha;simp only at ha;split at ha
   ·exact ha
   ·simpa using ha
  obtain ⟨e1,e2⟩:=h.nn hn;unfold Sl.cut;simp [e1,e2]
theorem run_head{P:Program}{t e:TypeId}(ht:P.underlying t=some (.slice e))(hz:(P.info? e).map (fun i=>(i.zero,i.size,i.bytes))=some (some (.int .u8 0),1,1))(k1:IntKind)(s:Sl){h:Nat}(hh:h≤s.xs.length)(hc:s.xs.length≤s.c)(w:World) :
  (Instr.slice t (.slice s.a s.xs.length s.c) none (some (.int k1 (h:Int))) none).run P w=.ok (s.cut 0 h).v w:=by
 obtain ⟨h1,h2⟩:=sized1 ht hz w;rw [run_slice_h w t s.a s.xs.length s.c h1 k1 h (by omega) (by omega),h2];simp only [Result.andThen,sliced,Int.toNat_natCast,Nat.mul_one];unfold Sl.v;rw [Sl.cut_len s (Nat.zero_le _) hh];rfl
theorem or_step{xs:List Int}(hb:IsBy xs){i:Nat}(h8:i<8){cv:Nat}(hc:xs[i]? = some (cv:Int)):bits .or .u64 (leV (xs.take i)) ((cv:Int) * 2 ^ (8 * i) % 18446744073709551616)=leV (xs.take (i+1)):=by
 obtain ⟨hi,hx⟩:=List.getElem?_eq_some_iff.1 hc;have hcv:cv<256:=by have:=hb _ (List.getElem_mem hi);rw [hx] at this;omega
 have hl:(xs.take i).length=i:=by simp;omega
 obtain ⟨r0,r1⟩:=leV_lt (xs.take i) (hb.take i);rw [hl] at r1;have e:leV (xs.take (i+1))=leV (xs.take i)+(cv:Int) * 256 ^ i:=by rw [List.take_succ_eq_append_getElem hi,leV_snoc,hl,hx]
 rw [e];generalize leV (xs.take i)=z at r0 r1;obtain ⟨A,rfl⟩:=Int.eq_ofNat_of_zero_le r0;have hp:(256:Nat) ^ i=2 ^ (8 * i):=by rw [show (256:Nat)=2 ^ 8 from rfl,←Nat.pow_mul]
 have hA:A<2 ^ (8 * i):=by
  have:((A:Nat):Int)<((256 ^ i:Nat):Int):=by rw [Int.natCast_pow];exact r1
  rw [←hp];omega
 have hle:(2:Nat) ^ (8 * i)≤2 ^ 56:=Nat.pow_le_pow_right (by omega) (by omega);have hm:cv * 2 ^ (8 * i)<18446744073709551616:=by have:cv * 2 ^ (8 * i)≤255 * 2 ^ 56:=Nat.mul_le_mul (by omega) hle;omega
 have e1:(cv:Int) * 2 ^ (8 * i) % 18446744073709551616=((cv * 2 ^ (8 * i):Nat):Int):=by rw [show (cv:Int) * 2 ^ (8 * i)=((cv * 2 ^ (8 * i):Nat):Int) by rw [Int.natCast_mul,Int.natCast_pow];rfl];omega
 have e2:(cv:Int) * 256 ^ i=((cv * 2 ^ (8 * i):Nat):Int):=by rw [←hp,Int.natCast_mul,Int.natCast_pow];rfl
 rw [e1,e2,u64_or_nat A _ (by omega) hm,←Int.natCast_add];congr 1;rw [Nat.or_comm,Nat.mul_comm cv,←Nat.two_pow_add_eq_or_of_lt hA];omega
def fixF(k:Nat)(xs:List Int)(e:Int):Int×List Int×Int:=if e≠0 then (0,xs,e) else if xs.length<k then (0,xs,4) else (leV (xs.take k),xs.drop k,0)
def FixTo(r k:Nat)(xs:List Int)(e:Int)(w:World)(z:Ending)(w':World):Prop:=z=.returned (.int .u64 (fixF k xs e).1)∧RdrAt w' r (fixF k xs e).2.1 (fixF k xs e).2.2∧Only [r] w w'
theorem RdrAt.cutAt{w:World}{r k:Nat}{s:Sl}{e:Int}(hr:Row w r #[s.v,.int .i64 e] tRd)(hs:SlRd .u8 w s)(hne:s.xs≠[]→∀ b∈s.bs,b<r)(hc:s.xs.length≤s.c)(hk:k≤s.xs.length) :
  RdrAt (w.setCell ⟨r,0,none⟩ (s.cut k s.xs.length).v) r (s.xs.drop k) e:=by
 have K:Only [r] w (w.setCell ⟨r,0,none⟩ (s.cut k s.xs.length).v):=(Ω [r] w).setCell (.inl (by simp)) _;have ex:(s.cut k s.xs.length).xs=s.xs.drop k:=by unfold Sl.cut;simp only;exact List.take_of_length_le (by simp)
 refine ⟨s.cut k s.xs.length,ex,by simpa using hr.set 0 (s.cut k s.xs.length).v,(hs.cut hk (Θ _) hc).only K (fun hx b hb=>?_),fun hx=>?_,?_⟩
 ·rw [Sl.cut_bs] at hb;rw [ex] at hx;simp only [List.mem_singleton];rintro rfl;have:=hne (fun e=>hx (by simp [e])) _ hb;omega
 ·rw [Sl.cut_bs];exact hne fun e=>hx (by simp [e])
 ·rw [List.length_drop];unfold Sl.cut;simp only;omega
theorem RdrAt.errAt{w:World}{r:Nat}{s:Sl}{e e':Int}(hr:Row w r #[s.v,.int .i64 e] tRd)(hs:SlRd .u8 w s)(hne:s.xs≠[]→∀ b∈s.bs,b<r)(hc:s.xs.length≤s.c):RdrAt (w.setCell ⟨r,1,none⟩ (.int .i64 e')) r s.xs e':=by have K:Only [r] w (w.setCell ⟨r,1,none⟩ (.int .i64 e')):=(Ω [r] w).setCell (.inl (by simp)) _;exact ⟨s,rfl,by simpa using hr.set 1 (.int .i64 e'),hs.only K (fun hx b hb hm=>by simp at hm;subst hm;have:=hne hx _ hb;omega),hne,hc⟩
theorem fixed_gen{r:Nat}{xs:List Int}{e:Int}{w:World}(h:RdrAt w r xs e)(hb:IsBy xs)(k:Nat)(h8:k≤8) :
  Calls prog 169 #[.pointer (some ⟨r,0,none⟩),.int .i64 (k:Int)] w (FixTo r k xs e w):=by
 obtain ⟨s,rfl,hr,hs,hne,hc⟩:=h.at_;have HH:=Ξ h;have ER:=Ξ (err_on r _ e w hr);have c0:=hr.c 0 (.slice s.a s.xs.length s.c);have c1:=hr.c 1 (.int .i64 e);have f0:=hr.free 0;have f1:=hr.free 1;have k0:(0:Int)≤(k:Int):=Int.natCast_nonneg _;by_cases he:e=0
 ·subst he;by_cases hl:s.xs.length<k
  ·have dk:decide ((s.xs.length:Int)<(k:Int))=true:=Γ (by omega);have dk':decide (s.xs.length<k)=true:=Γ hl;have N:Hid (FixTo r k s.xs 0 w (.returned (.int .u64 0)) (w.setCell ⟨r,1,none⟩ (.int .i64 4))):=Ξ (by unfold FixTo fixF;rw [if_neg (by simp),if_pos hl];exact ⟨rfl,RdrAt.errAt hr hs hne hc,(Ω [r] w).setCell (.inl (by simp)) _⟩)
   clear h hr hs hne hc hb h8 hl;go_enter func169,ntmps169;go_wp2_with fail;refine ER.out.mono ?_;rintro _ w' ⟨rfl,hw'⟩;subst w';go_wp2_with fail;go_ret;exact N.out
  ·have dk:decide ((s.xs.length:Int)<(k:Int))=false:=Λ (by omega);have dk':decide (s.xs.length<k)=false:=Λ hl;have HL:Hid (k≤s.xs.length∧k≤8):=Ξ ⟨by omega,h8⟩;have HB:=Ξ hb;have e1:∀ y:World,(Instr.slice 30 (.slice s.a s.xs.length s.c) none (some (.int .i64 (k:Int))) none).run prog y=.ok (s.cut 0 k).v y:=fun y=>run_head underlying30 infoBy .i64 s (by omega) hc y;have e2:∀ y:World,(Instr.slice 30 (.slice s.a s.xs.length s.c) (some (.int .i64 (k:Int))) none none).run prog y=.ok (s.cut k s.xs.length).v y:=fun y=>run_tail underlying30 infoBy .i64 s (by omega) y;have ev1:(s.cut 0 k).v=.slice (s.cut 0 k).a k (s.cut 0 k).c:=by unfold Sl.v;rw [Sl.cut_len s (Nat.zero_le _) (by omega)];rfl
   have ex1:(s.cut 0 k).xs=s.xs.take k:=by unfold Sl.cut;simp
   have h1:=hs.cut (l:=0) (k:=k) (Nat.zero_le _) (by omega) hc;have HC:Hid (∀ i z,i<k→(s.xs)[i]? = some z→∃ b o,(s.cut 0 k).a=some ⟨b,o,none⟩∧w.cell? ⟨b,o+i,none⟩=some (.int .u8 z)):=Ξ fun i z hi hz=>by obtain ⟨b,o,h2,h3⟩:=h1.at_ (j:=i) (z:=z) (by rw [ex1,List.getElem?_take_of_lt hi];exact hz);exact ⟨b,o,h2,h3 i z (by rw [ex1,List.getElem?_take_of_lt hi];exact hz)⟩
   have N:Hid (FixTo r k s.xs 0 w (.returned (.int .u64 (leV (s.xs.take k)))) (w.setCell ⟨r,0,none⟩ (s.cut k s.xs.length).v)):=Ξ (by unfold FixTo fixF;rw [if_neg (by simp),if_neg hl];exact ⟨rfl,RdrAt.cutAt hr hs hne hc (by omega),(Ω [r] w).setCell (.inl (by simp)) _⟩)
   have ev2:(s.cut k s.xs.length).v=.slice (s.cut k s.xs.length).a (s.xs.length-k) (s.cut k s.xs.length).c:=by unfold Sl.v;rw [Sl.cut_len s (by omega) (Θ _)]
   rw [ev1] at e1;rw [ev2] at e2 N;generalize (s.cut 0 k).a=a1 at *;generalize (s.cut 0 k).c=k1 at *;generalize (s.cut k s.xs.length).a=a2 at *;generalize (s.cut k s.xs.length).c=k2 at *;clear h hr hs hne hc hb h8 hl ev1 ev2 ex1 h1;go_enter func169,ntmps169;go_wp2_with fail;refine ER.out.mono ?_;rintro _ w' ⟨rfl,hw'⟩;subst w';go_wp2_with fail;go_loopw [5,6,7,28] (fun x _ _ u wr=>∃ i:Nat,i≤k∧u=.int .i64 i∧x=.int .u64 (leV (s.xs.take i))∧Hid (wr=w)) (fun _ _ _ u _=>k-(intOf u).toNat)
   case atStart=>exact ⟨0,by omega,rfl,rfl,Ξ rfl⟩
   case round=>
    obtain ⟨i,hi,rfl,rfl,HW⟩:=hrel;obtain rfl:=HW.out;have i0:(0:Int)≤(i:Int):=Int.natCast_nonneg _;by_cases hlt:i<k
    ·have e1:decide ((i:Int)<(k:Int))=true:=Γ (by omega);have e1':(i:Int)<(k:Int):=(by omega);obtain ⟨cv,hv1,hv2⟩:=HB.out.at_ (show i<s.xs.length by have:=HL.out;omega);obtain ⟨g,o,rfl,l1⟩:=HC.out i _ hlt hv1;have hs:bits .or .u64 (leV (s.xs.take i)) (IntKind.u64.wrap ((cv:Int) * 2 ^ (8 * i)))=leV (s.xs.take (i+1)):=or_step HB.out (show i<8 by have:=HL.out;omega) hv1;have wv:IntKind.u64.wrap (cv:Int)=(cv:Int):=by rw [show IntKind.u64.wrap (cv:Int)=(cv:Int) % 18446744073709551616 from rfl];omega
     have i8:i<8:=by have:=HL.out;omega
     generalize hz:leV (s.xs.take (i+1))=z at hs;have HZ:=Ξ hz;generalize leV (s.xs.take i)=y at *;clear hv1 hz;go_wp2_with fail;go_roundw;case rel=>exact ⟨i+1,by omega,by go_num,by rw [HZ.out],by first|exact Ξ trivial|exact Ξ rfl⟩
     case measure=>simp [intOf];omega
    ·have e1:decide ((i:Int)<(k:Int))=false:=Λ (by omega);have E:Hid (i=k):=Ξ (by omega);go_wp2_with fail;go_ret;rw [E.out];exact N.out
 ·have d1:decide (e=0)=false:=Λ he;have d2:(e == 0)=false:=by simp [he]
  have N:Hid (FixTo r k s.xs e w (.returned (.int .u64 0)) w):=Ξ (by unfold FixTo fixF;rw [if_pos he];exact ⟨rfl,h,Ω _ _⟩)
  clear h hr hs hne hc hb h8;go_enter func169,ntmps169;go_wp2_with fail;refine ER.out.mono ?_;rintro _ w' ⟨rfl,hw'⟩;subst w';go_wp2_with fail;go_ret;exact N.out
theorem fixF_lt{k:Nat}{xs:List Int}{e:Int}(hb:IsBy xs):0≤(fixF k xs e).1∧(fixF k xs e).1<256 ^ k:=by
 have hp:(0:Int)<256 ^ k:=Int.pow_pos (by omega);unfold fixF;split
 ·exact ⟨by simp,hp⟩
 ·split
  ·exact ⟨by simp,hp⟩
  ·rename_i h
   have h1:=leV_lt (xs.take k) (hb.take k);rw [List.length_take,Nat.min_eq_left (by omega)] at h1;exact h1
theorem rdU8{r:Nat}{xs:List Int}{e:Int}{w:World}(h:RdrAt w r xs e)(hb:IsBy xs) :
  Calls prog 100 #[.pointer (some ⟨r,0,none⟩)] w fun z w'=>z=.returned (.int .u8 (fixF 1 xs e).1)∧RdrAt w' r (fixF 1 xs e).2.1 (fixF 1 xs e).2.2∧Only [r] w w':=by
 have F:=Ξ (fixed_gen h hb 1 (by omega));have L:=fixF_lt (k:=1) (e:=e) hb;have wx:IntKind.u8.wrap (fixF 1 xs e).1=(fixF 1 xs e).1:=by rw [show ∀ z,IntKind.u8.wrap z=z % 256 from fun _=>rfl];have:=L.2;exact Int.emod_eq_of_lt L.1 (by omega)
 unfold FixTo at F;clear h hb L;generalize fixF 1 xs e=q at *;go_enter func100,ntmps100;go_wp2_with fail;refine F.out.mono ?_;rintro _ w' ⟨rfl,h1,h2⟩;have N:=Ξ (Ψ h1 h2);clear h1 h2;go_wp2_with fail;go_ret;exact ⟨rfl,N.out.1,N.out.2⟩
theorem rdU32{r:Nat}{xs:List Int}{e:Int}{w:World}(h:RdrAt w r xs e)(hb:IsBy xs) :
  Calls prog 136 #[.pointer (some ⟨r,0,none⟩)] w fun z w'=>z=.returned (.int .u32 (fixF 4 xs e).1)∧RdrAt w' r (fixF 4 xs e).2.1 (fixF 4 xs e).2.2∧Only [r] w w':=by
 have F:=Ξ (fixed_gen h hb 4 (by omega));have L:=fixF_lt (k:=4) (e:=e) hb;have wx:IntKind.u32.wrap (fixF 4 xs e).1=(fixF 4 xs e).1:=by rw [show ∀ z,IntKind.u32.wrap z=z % 4294967296 from fun _=>rfl];have:=L.2;exact Int.emod_eq_of_lt L.1 (by omega)
 unfold FixTo at F;clear h hb L;generalize fixF 4 xs e=q at *;go_enter func136,ntmps136;go_wp2_with fail;refine F.out.mono ?_;rintro _ w' ⟨rfl,h1,h2⟩;have N:=Ξ (Ψ h1 h2);clear h1 h2;go_wp2_with fail;go_ret;exact ⟨rfl,N.out.1,N.out.2⟩
theorem rdU64{r:Nat}{xs:List Int}{e:Int}{w:World}(h:RdrAt w r xs e)(hb:IsBy xs) :
  Calls prog 108 #[.pointer (some ⟨r,0,none⟩)] w fun z w'=>z=.returned (.int .u64 (fixF 8 xs e).1)∧RdrAt w' r (fixF 8 xs e).2.1 (fixF 8 xs e).2.2∧Only [r] w w':=by
 have F:=Ξ (fixed_gen h hb 8 (by omega));have L:=fixF_lt (k:=8) (e:=e) hb;have wx:IntKind.u64.wrap (fixF 8 xs e).1=(fixF 8 xs e).1:=by rw [show ∀ z,IntKind.u64.wrap z=z % 18446744073709551616 from fun _=>rfl];have:=L.2;exact Int.emod_eq_of_lt L.1 (by omega)
 unfold FixTo at F;clear h hb L;generalize fixF 8 xs e=q at *;go_enter func108,ntmps108;go_wp2_with fail;refine F.out.mono ?_;rintro _ w' ⟨rfl,h1,h2⟩;have N:=Ξ (Ψ h1 h2);clear h1 h2;go_wp2_with fail;go_ret;exact ⟨rfl,N.out.1,N.out.2⟩
theorem and127:∀ x:Int,0≤x→x<256→bits .and .u8 x 127=x % 128:=fun x h0 h1=>by
 obtain ⟨n,rfl⟩:=Int.eq_ofNat_of_zero_le h0;have h:∀ m:Fin 256,bits .and .u8 (m.val:Int) 127=(m.val:Int) % 128:=by decide +kernel
 exact h ⟨n,by omega⟩
theorem cnt_or{i:Nat}{acc c:Int}(hi:i≤9)(h0:0≤acc)(h1:acc<128 ^ i)(c0:0≤c)(c1:c<256)(h9:i=9→c≤1):bits .or .u64 acc (IntKind.u64.wrap (c % 128 * 2 ^ (7 * i)))=acc+c % 128 * 128 ^ i:=by
 obtain ⟨A,rfl⟩:=Int.eq_ofNat_of_zero_le h0;obtain ⟨C,hC⟩:=Int.eq_ofNat_of_zero_le (show 0≤c % 128 by omega);have hC2:C<128:=by omega
 have hC9:i=9→C≤1:=fun h=>by have:=h9 h;omega
 have hp:(128:Nat) ^ i=2 ^ (7 * i):=by rw [show (128:Nat)=2 ^ 7 from rfl,←Nat.pow_mul]
 have hA:A<2 ^ (7 * i):=by
  have:((A:Nat):Int)<((128 ^ i:Nat):Int):=by rw [Int.natCast_pow];exact h1
  rw [←hp];omega
 have hm:C * 2 ^ (7 * i)<18446744073709551616:=by
  by_cases h:i=9
  ·subst h;have:=hC9 rfl;have:C * 2 ^ (7 * 9)≤1 * 2 ^ (7 * 9):=Nat.mul_le_mul_right _ this;omega
  ·have hle:(2:Nat) ^ (7 * i)≤2 ^ 56:=Nat.pow_le_pow_right (by omega) (by omega);have:C * 2 ^ (7 * i)≤127 * 2 ^ 56:=Nat.mul_le_mul (by omega) hle;omega
 have hA2:A<18446744073709551616:=by have hle:(2:Nat) ^ (7 * i)≤2 ^ 63:=Nat.pow_le_pow_right (by omega) (by omega);omega
 rw [hC];have e1:IntKind.u64.wrap ((C:Int) * 2 ^ (7 * i))=((C * 2 ^ (7 * i):Nat):Int):=by rw [show ∀ z,IntKind.u64.wrap z=z % 18446744073709551616 from fun _=>rfl,show (C:Int) * 2 ^ (7 * i)=((C * 2 ^ (7 * i):Nat):Int) by rw [Int.natCast_mul,Int.natCast_pow];rfl];omega
 have e2:(C:Int) * 128 ^ i=((C * 2 ^ (7 * i):Nat):Int):=by rw [←hp,Int.natCast_mul,Int.natCast_pow];rfl
 rw [e1,e2,u64_or_nat A _ hA2 hm,←Int.natCast_add];congr 1;rw [Nat.or_comm,Nat.mul_comm C,←Nat.two_pow_add_eq_or_of_lt hA];omega
theorem cnt_next{i:Nat}{acc c:Int}(hi:i≤9)(h0:0≤acc)(h1:acc<128 ^ i)(c0:0≤c):0≤acc+c % 128 * 128 ^ i∧acc+c % 128 * 128 ^ i<128 ^ (i+1):=by have hp:(0:Int)<128 ^ i:=Int.pow_pos (by omega);have h2:0≤c % 128 * 128 ^ i:=Int.mul_nonneg (by omega) (by omega);have h3:c % 128 * 128 ^ i≤127 * 128 ^ i:=Int.mul_le_mul_of_nonneg_right (by omega) (by omega);rw [Int.pow_succ];omega
theorem cnt_le:∀ (xs:List Int) (i:Nat) (acc:Int),(cnt xs i acc).2.2=true→(i:Int)<(cnt xs i acc).2.1∧(cnt xs i acc).2.1≤(i:Int)+xs.length
 | [],i,acc,h=>by simp [cnt] at h
 | c :: r,i,acc,h=>by
  unfold cnt at h ⊢;split at h
  ·simp at h
  ·rename_i hA
   rw [if_neg hA] at *;split at h
   ·rename_i hB
    rw [if_pos hB];simp;omega
   ·rename_i hB
    rw [if_neg hB];have:=cnt_le r (i+1) _ h;simp;omega
theorem cnt_nonneg:∀ (xs:List Int) (i:Nat) (acc:Int),IsBy xs→0≤acc→0≤(cnt xs i acc).1
 | [],i,acc,_,h=>by simp [cnt]
 | c :: r,i,acc,hb,h=>by
  have hc:=hb c (by simp);have hp:(0:Int)<128 ^ i:=Int.pow_pos (by omega);have h2:0≤c % 128 * 128 ^ i:=Int.mul_nonneg (by omega) (by omega);unfold cnt;split
  ·simp
  ·split
   ·simp;omega
   ·exact cnt_nonneg r (i+1) _ (fun x hx=>hb x (List.mem_cons_of_mem _ hx)) (by omega)
theorem cnt_lt:∀ (xs:List Int) (i:Nat) (acc:Int),IsBy xs→i≤9→0≤acc→acc<128 ^ i→(cnt xs i acc).1<18446744073709551616
 | [],i,acc,_,_,_,_=>by simp [cnt]
 | c :: r,i,acc,hb,hi,h0,h1=>by
  have hc:=hb c (by simp);have hn:=cnt_next hi h0 h1 hc.1;unfold cnt;split
  ·simp
  ·rename_i hA
   split
   ·by_cases h9:i=9
    ·subst h9;have:c≤1:=by omega
     have:c % 128 * 128 ^ 9≤1 * 128 ^ 9:=Int.mul_le_mul_of_nonneg_right (by omega) (by omega);simp only;omega
    ·have hle:(128:Int) ^ (i+1)≤128 ^ 9:=by
      have h:(128:Nat) ^ (i+1)≤128 ^ 9:=Nat.pow_le_pow_right (by omega) (by omega);have h2:=Int.ofNat_le.2 h
      rwa [Int.natCast_pow,Int.natCast_pow] at h2
     simp only;omega
   ·by_cases h9:i=9
    ·subst h9;have:c≤1:=by omega
     omega
    ·exact cnt_lt r (i+1) _ (fun x hx=>hb x (List.mem_cons_of_mem _ hx)) (by omega) hn.1 hn.2
def cntV(xs:List Int):Array Value:=#[.int .u64 (cnt xs 0 0).1,.int .i64 (cnt xs 0 0).2.1,.bool (cnt xs 0 0).2.2]
theorem drop_step{xs:List Int}{i:Nat}{c:Int}(h:xs[i]? = some c):xs.drop i=c :: xs.drop (i+1):=by obtain ⟨hi,hx⟩:=List.getElem?_eq_some_iff.1 h;rw [List.drop_eq_getElem_cons hi,hx]
theorem count_gen{r:Nat}{xs:List Int}{e:Int}{w:World}(h:RdrAt w r xs e)(hb:IsBy xs) :
  Calls prog 173 #[.pointer (some ⟨r,0,none⟩)] w fun z w'=>z=.returned (.tuple (cntV xs))∧w'=w:=by
 obtain ⟨s,rfl,hr,hs,hne,hc⟩:=h.at_;have c0:=hr.c 0 (.slice s.a s.xs.length s.c);obtain ⟨a0,ha0⟩:∃ a,s.a=a:=⟨_,rfl⟩;obtain ⟨k0,hk0⟩:∃ a,s.c=a:=⟨_,rfl⟩;obtain ⟨n,hn⟩:∃ n,s.xs.length=n:=⟨_,rfl⟩;have HC:Hid (∀ i z,(s.xs)[i]? = some z→∃ b o,a0=some ⟨b,o,none⟩∧w.cell? ⟨b,o+i,none⟩=some (.int .u8 z)):=Ξ fun i z hz=>by obtain ⟨b,o,h2,h3⟩:=hs.at_ hz;exact ⟨b,o,by rw [←ha0];exact h2,h3 i z hz⟩
 have HB:=Ξ hb;have HN:Hid (s.xs.length=n∧n≤1000000):=Ξ ⟨hn,by rw [←hn];exact hs.le⟩;rw [ha0,hk0,hn] at c0;clear h hr hs hne hc hb ha0 hk0 hn;go_enter func173,ntmps173;go_wp2_with fail;go_loopw [5,13] (fun x u wr=>∃ (i:Nat) (acc:Int),i≤n∧u=.int .i64 i∧x=.int .u64 acc∧Hid (wr=w)∧Hid (cnt s.xs 0 0=cnt (s.xs.drop i) i acc∧i≤10∧0≤acc∧(i≤9→acc<128 ^ i))) (fun _ u _=>n-(intOf u).toNat)
 case atStart=>exact ⟨0,0,by omega,rfl,rfl,Ξ rfl,Ξ ⟨by simp,by omega,by omega,by simp⟩⟩
 case round=>
  obtain ⟨i,acc,hi,rfl,rfl,HW,HI⟩:=hrel;obtain rfl:=HW.out;have i0:(0:Int)≤(i:Int):=Int.natCast_nonneg _;have ej:IntKind.i64.wrap ((i:Int)+1)=((i+1:Nat):Int):=IntWalk.i64_in _ (by have:=HN.out;omega);by_cases hlt:i<n
  ·have e1:decide ((i:Int)<(n:Int))=true:=Γ (by omega);have e1b:decide (i<n)=true:=Γ hlt;have e1':(i:Int)<(n:Int):=(by omega);obtain ⟨cv,hv1,hv2⟩:=HB.out.at_ (show i<s.xs.length by rw [HN.out.1];exact hlt);obtain ⟨g,o,rfl,l1⟩:=HC.out i _ hv1;have HV:=Ξ hv1;have HV2:=Ξ hv2;have HLT:=Ξ hlt;have ED:=Ξ (drop_step hv1);by_cases h10:i=10
   ·have EC:Hid (cnt s.xs 0 0=(0,0,false)):=Ξ (by rw [HI.out.1,ED.out];unfold cnt;rw [if_pos (.inr (by omega))])
    have q9:decide ((i:Int)=9)=false:=Λ (by omega);have q9':((i:Int) == 9)=false:=by simp;omega
    have q9n:¬ i=9:=(by omega);have qg:decide ((9:Int)<(i:Int))=true:=Γ (by omega);have qg':decide (9<i)=true:=Γ (by omega);have qgn:9<i:=(by omega);clear hv1 hv2 h10 hlt hi;go_wp2_with fail
    go_ret3
    exact ⟨by unfold cntV;rw [EC.out];rfl,rfl⟩
   ·by_cases h9:i=9
    ·have q9:decide ((i:Int)=9)=true:=Γ (by omega);have q9':((i:Int) == 9)=true:=by simp;omega
     by_cases hc1:1<cv
     ·have q1:decide ((1:Int)<(cv:Int))=true:=Γ (by omega);have q1':decide (1<cv)=true:=Γ hc1;have EC:Hid (cnt s.xs 0 0=(0,0,false)):=Ξ (by rw [HI.out.1,ED.out];unfold cnt;rw [if_pos (.inl ⟨h9,by omega⟩)])
      clear hv1 hv2 h10 h9 hlt hi;go_wp2_with fail
      go_ret3
      exact ⟨by unfold cntV;rw [EC.out];rfl,rfl⟩
     ·have q1:decide ((1:Int)<(cv:Int))=false:=Λ (by omega);have q1':decide (1<cv)=false:=Λ hc1;have qg:decide ((9:Int)<(i:Int))=false:=Λ (by omega);have qg':decide (9<i)=false:=Λ (by omega);have H9:Hid (i≤9∧(i=9→(cv:Int)≤1)):=Ξ ⟨by have:=HI.out.2.1;omega,by intro h;omega⟩;clear h9 h10;have O:bits .or .u64 acc (IntKind.u64.wrap ((cv:Int) % 128 * 2 ^ (7 * i)))=acc+(cv:Int) % 128 * 128 ^ i:=cnt_or H9.out.1 HI.out.2.2.1 (HI.out.2.2.2 H9.out.1) (by omega) (by have:=HV2.out;omega) H9.out.2;have AN:bits .and .u8 (cv:Int) 127=(cv:Int) % 128:=and127 _ (by omega) (by have:=HV2.out;omega);have wv:IntKind.u64.wrap ((cv:Int) % 128)=(cv:Int) % 128:=by rw [show IntKind.u64.wrap ((cv:Int) % 128)=(cv:Int) % 128 % 18446744073709551616 from rfl];omega
      have NX:Hid (0≤acc+(cv:Int) % 128 * 128 ^ i∧acc+(cv:Int) % 128 * 128 ^ i<128 ^ (i+1)):=Ξ (cnt_next H9.out.1 HI.out.2.2.1 (HI.out.2.2.2 H9.out.1) (by omega));have EU:Hid (cnt s.xs 0 0=if (cv:Int)<128 then (acc+(cv:Int) % 128 * 128 ^ i,(i:Int)+1,decide (i=0∨(cv:Int)≠0)) else cnt (s.xs.drop (i+1)) (i+1) (acc+(cv:Int) % 128 * 128 ^ i)):=Ξ (by
       rw [HI.out.1,ED.out];conv=>lhs;unfold cnt
       have:=H9.out;rw [if_neg (by clear O AN wv;omega)])
      have I8:Hid (i≤9):=Ξ H9.out.1;have i7:i<10:=by have:=H9.out;clear O AN wv;omega
      generalize hz:acc+(cv:Int) % 128 * 128 ^ i=z at *;generalize (cv:Int) % 128=y at *;clear hz;clear hv1 hv2;by_cases hlow:cv<128
      ·have l128:decide ((cv:Int)<128)=true:=Γ (by omega);have l128':decide (cv<128)=true:=Γ hlow;by_cases hz0:i=0
       ·have m0:decide ((i:Int)=0)=true:=Γ (by omega);have m0':((i:Int) == 0)=true:=by simp;omega
        have EF:Hid (cnt s.xs 0 0=(z,(i:Int)+1,true)):=Ξ (by rw [EU.out,if_pos (by omega)];simp [hz0]);clear EU hlow hz0;go_wp2_with fail
        go_ret3
        exact ⟨by unfold cntV;rw [EF.out];rfl,rfl⟩
       ·have m0:decide ((i:Int)=0)=false:=Λ (by omega);have m0':((i:Int) == 0)=false:=by simp;omega
        by_cases hc0:cv=0
        ·have m1:decide ((cv:Int)=0)=true:=Γ (by omega);have m1':((cv:Int) != 0)=false:=by simp [hc0]
         have EF:Hid (cnt s.xs 0 0=(z,(i:Int)+1,false)):=Ξ (by rw [EU.out,if_pos (by omega)];simp [hz0,hc0]);clear EU hlow hz0 hc0;go_wp2_with fail
         go_ret3
         exact ⟨by unfold cntV;rw [EF.out];rfl,rfl⟩
        ·have m1:decide ((cv:Int)=0)=false:=Λ (by omega);have m1':((cv:Int) != 0)=true:=by simp;omega
         have EF:Hid (cnt s.xs 0 0=(z,(i:Int)+1,true)):=Ξ (by rw [EU.out,if_pos (by omega)];simp [hz0,hc0]);clear EU hlow hz0 hc0;go_wp2_with fail
         go_ret3
         exact ⟨by unfold cntV;rw [EF.out];rfl,rfl⟩
      ·exact absurd (show cv<128 by clear O AN wv;omega) hlow
    ·have q9:decide ((i:Int)=9)=false:=Λ (by omega);have q9':((i:Int) == 9)=false:=by simp;omega
     have qg:decide ((9:Int)<(i:Int))=false:=Λ (by have:=HI.out.2.1;omega);have qg':decide (9<i)=false:=Λ (by have:=HI.out.2.1;omega);have H9:Hid (i≤9∧(i=9→(cv:Int)≤1)):=Ξ ⟨by have:=HI.out.2.1;omega,by intro h;omega⟩;clear h9 h10;have O:bits .or .u64 acc (IntKind.u64.wrap ((cv:Int) % 128 * 2 ^ (7 * i)))=acc+(cv:Int) % 128 * 128 ^ i:=cnt_or H9.out.1 HI.out.2.2.1 (HI.out.2.2.2 H9.out.1) (by omega) (by have:=HV2.out;omega) H9.out.2;have AN:bits .and .u8 (cv:Int) 127=(cv:Int) % 128:=and127 _ (by omega) (by have:=HV2.out;omega);have wv:IntKind.u64.wrap ((cv:Int) % 128)=(cv:Int) % 128:=by rw [show IntKind.u64.wrap ((cv:Int) % 128)=(cv:Int) % 128 % 18446744073709551616 from rfl];omega
     have NX:Hid (0≤acc+(cv:Int) % 128 * 128 ^ i∧acc+(cv:Int) % 128 * 128 ^ i<128 ^ (i+1)):=Ξ (cnt_next H9.out.1 HI.out.2.2.1 (HI.out.2.2.2 H9.out.1) (by omega));have EU:Hid (cnt s.xs 0 0=if (cv:Int)<128 then (acc+(cv:Int) % 128 * 128 ^ i,(i:Int)+1,decide (i=0∨(cv:Int)≠0)) else cnt (s.xs.drop (i+1)) (i+1) (acc+(cv:Int) % 128 * 128 ^ i)):=Ξ (by
      rw [HI.out.1,ED.out];conv=>lhs;unfold cnt
      have:=H9.out;rw [if_neg (by clear O AN wv;omega)])
     have I8:Hid (i≤9):=Ξ H9.out.1;have i7:i<10:=by have:=H9.out;clear O AN wv;omega
     generalize hz:acc+(cv:Int) % 128 * 128 ^ i=z at *;generalize (cv:Int) % 128=y at *;clear hz;clear hv1 hv2;by_cases hlow:cv<128
     ·have l128:decide ((cv:Int)<128)=true:=Γ (by omega);have l128':decide (cv<128)=true:=Γ hlow;by_cases hz0:i=0
      ·have m0:decide ((i:Int)=0)=true:=Γ (by omega);have m0':((i:Int) == 0)=true:=by simp;omega
       have EF:Hid (cnt s.xs 0 0=(z,(i:Int)+1,true)):=Ξ (by rw [EU.out,if_pos (by omega)];simp [hz0]);clear EU hlow hz0;go_wp2_with fail
       go_ret3
       exact ⟨by unfold cntV;rw [EF.out];rfl,rfl⟩
      ·have m0:decide ((i:Int)=0)=false:=Λ (by omega);have m0':((i:Int) == 0)=false:=by simp;omega
       by_cases hc0:cv=0
       ·have m1:decide ((cv:Int)=0)=true:=Γ (by omega);have m1':((cv:Int) != 0)=false:=by simp [hc0]
        have EF:Hid (cnt s.xs 0 0=(z,(i:Int)+1,false)):=Ξ (by rw [EU.out,if_pos (by omega)];simp [hz0,hc0]);clear EU hlow hz0 hc0;go_wp2_with fail
        go_ret3
        exact ⟨by unfold cntV;rw [EF.out];rfl,rfl⟩
       ·have m1:decide ((cv:Int)=0)=false:=Λ (by omega);have m1':((cv:Int) != 0)=true:=by simp;omega
        have EF:Hid (cnt s.xs 0 0=(z,(i:Int)+1,true)):=Ξ (by rw [EU.out,if_pos (by omega)];simp [hz0,hc0]);clear EU hlow hz0 hc0;go_wp2_with fail
        go_ret3
        exact ⟨by unfold cntV;rw [EF.out];rfl,rfl⟩
     ·have l128:decide ((cv:Int)<128)=false:=Λ (by omega);have l128':decide (cv<128)=false:=Λ hlow;have EF:Hid (cnt s.xs 0 0=cnt (s.xs.drop (i+1)) (i+1) z):=Ξ (by rw [EU.out,if_neg (by omega)]);clear EU;go_wp2_with fail;go_roundw;case rel=>exact ⟨i+1,z,by have:=HLT.out;omega,by go_num,rfl,by first|exact Ξ trivial|exact Ξ rfl,Ξ ⟨EF.out,by have:=I8.out;omega,NX.out.1,fun _=>NX.out.2⟩⟩
      case measure=>have:=HLT.out;simp [intOf];omega
  ·have e1:decide ((i:Int)<(n:Int))=false:=Λ (by omega);have e1b:decide (i<n)=false:=Λ hlt;have EC:Hid (cnt s.xs 0 0=(0,0,false)):=Ξ (by rw [HI.out.1,List.drop_of_length_le (by rw [HN.out.1];omega)];rfl)
   clear hlt;go_wp2_with fail
   go_ret3
   exact ⟨by unfold cntV;rw [EC.out];rfl,rfl⟩
theorem left_on{r:Nat}{xs:List Int}{e:Int}{w:World}(h:RdrAt w r xs e):Calls prog 171 #[.pointer (some ⟨r,0,none⟩)] w fun z w'=>z=.returned (.int .i64 (xs.length:Int))∧w'=w:=by obtain ⟨s,rfl,hr,hs,hne,hc⟩:=h.at_;have c0:=hr.c 0 (.slice s.a s.xs.length s.c);clear h hr hs hne hc;go_enter func171,ntmps171;go_wp2_with fail;go_ret;exact ⟨rfl,rfl⟩
theorem err_gen{r:Nat}{xs:List Int}{e:Int}{w:World}(h:RdrAt w r xs e):Calls prog 172 #[.pointer (some ⟨r,0,none⟩)] w fun z w'=>z=.returned (.int .i64 e)∧w'=w:=by obtain ⟨s,rfl,hr,hs,hne,hc⟩:=h.at_;exact err_on r _ e w hr
def uvF(xs:List Int)(e:Int):Int×List Int×Int:=if e≠0 then (0,xs,e) else if (cnt xs 0 0).2.2=true then ((cnt xs 0 0).1,xs.drop (cnt xs 0 0).2.1.toNat,0) else (0,xs,4)
def UvTo(r:Nat)(xs:List Int)(e:Int)(w:World)(z:Ending)(w':World):Prop:=z=.returned (.int .u64 (uvF xs e).1)∧RdrAt w' r (uvF xs e).2.1 (uvF xs e).2.2∧Only [r] w w'
theorem uv_gen{r:Nat}{xs:List Int}{e:Int}{w:World}(h:RdrAt w r xs e)(hb:IsBy xs):Calls prog 170 #[.pointer (some ⟨r,0,none⟩)] w (UvTo r xs e w):=by
 have CG:=Ξ (count_gen h hb);obtain ⟨s,rfl,hr,hs,hne,hc⟩:=h.at_;have ER:=Ξ (err_on r _ e w hr);have c0:=hr.c 0 (.slice s.a s.xs.length s.c);have c1:=hr.c 1 (.int .i64 e);have f0:=hr.free 0;have f1:=hr.free 1;by_cases he:e=0
 ·subst he;have HL:=cnt_le s.xs 0 0;obtain ⟨n,kk,ok,hq⟩:∃ n kk ok,cnt s.xs 0 0=(n,kk,ok):=⟨_,_,_,rfl⟩;unfold cntV at CG;rw [hq] at CG HL;cases ok with
  | false=>
   have N:Hid (UvTo r s.xs 0 w (.returned (.int .u64 0)) (w.setCell ⟨r,1,none⟩ (.int .i64 4))):=Ξ (by unfold UvTo uvF;rw [if_neg (by simp),hq,if_neg (by simp)];exact ⟨rfl,RdrAt.errAt hr hs hne hc,(Ω [r] w).setCell (.inl (by simp)) _⟩)
   clear h hr hs hne hc hb HL hq;go_enter func170,ntmps170;go_wp2_with fail;refine ER.out.mono ?_;rintro _ w' ⟨rfl,hw'⟩;subst w';go_wp2_with fail;refine CG.out.mono ?_;rintro _ w' ⟨rfl,hw'⟩;subst w';go_wp2_with fail;go_ret;exact N.out
  | true=>
   obtain ⟨k1,k2⟩:=HL rfl;simp only [Int.natCast_zero,Int.zero_add] at k1 k2;obtain ⟨k,rfl⟩:=Int.eq_ofNat_of_zero_le (show 0≤kk by omega);have e2:∀ y:World,(Instr.slice 30 (.slice s.a s.xs.length s.c) (some (.int .i64 (k:Int))) none none).run prog y=.ok (s.cut k s.xs.length).v y:=fun y=>run_tail underlying30 infoBy .i64 s (by omega) y;have N:Hid (UvTo r s.xs 0 w (.returned (.int .u64 n)) (w.setCell ⟨r,0,none⟩ (s.cut k s.xs.length).v)):=Ξ (by unfold UvTo uvF;rw [if_neg (by simp),hq,if_pos rfl];exact ⟨rfl,RdrAt.cutAt hr hs hne hc (by omega),(Ω [r] w).setCell (.inl (by simp)) _⟩)
   have ev2:(s.cut k s.xs.length).v=.slice (s.cut k s.xs.length).a (s.xs.length-k) (s.cut k s.xs.length).c:=by unfold Sl.v;rw [Sl.cut_len s (by omega) (Θ _)]
   rw [ev2] at e2 N;generalize (s.cut k s.xs.length).a=a2 at *;generalize (s.cut k s.xs.length).c=k2 at *;clear h hr hs hne hc hb HL hq ev2 k1;go_enter func170,ntmps170;go_wp2_with fail;refine ER.out.mono ?_;rintro _ w' ⟨rfl,hw'⟩;subst w';go_wp2_with fail;refine CG.out.mono ?_;rintro _ w' ⟨rfl,hw'⟩;subst w';go_wp2_with fail;go_ret;exact N.out
 ·have d1:decide (e=0)=false:=Λ he;have d2:(e == 0)=false:=by simp [he]
  have N:Hid (UvTo r s.xs e w (.returned (.int .u64 0)) w):=Ξ (by unfold UvTo uvF;rw [if_pos he];exact ⟨rfl,h,Ω _ _⟩)
  clear h hr hs hne hc hb;go_enter func170,ntmps170;go_wp2_with fail;refine ER.out.mono ?_;rintro _ w' ⟨rfl,hw'⟩;subst w';go_wp2_with fail;go_ret;exact N.out
def txtF(most:Nat)(xs:List Int)(e:Int):List Int×List Int×Int:=if e≠0 then ([],xs,e) else if (cnt xs 0 0).2.2=true then (if (most:Int)<(cnt xs 0 0).1 then ([],xs,3) else if (xs.length:Int)-(cnt xs 0 0).2.1<(cnt xs 0 0).1 then ([],xs,4) else ((xs.drop (cnt xs 0 0).2.1.toNat).take (cnt xs 0 0).1.toNat,xs.drop ((cnt xs 0 0).2.1.toNat+(cnt xs 0 0).1.toNat),0)) else ([],xs,4)
def TxtTo(r most:Nat)(xs:List Int)(e:Int)(w:World)(z:Ending)(w':World):Prop:=∃ p:Sl,z=.returned p.v∧p.xs=(txtF most xs e).1∧SlAt .u8 w' p∧(∀ b∈p.bs,w.heap.size≤b)∧RdrAt w' r (txtF most xs e).2.1 (txtF most xs e).2.2∧Only [r] w w'
theorem TxtTo.none_{r most:Nat}{xs:List Int}{e:Int}{w w':World}(h:txtF most xs e=([],xs,(txtF most xs e).2.2))(hr:RdrAt w' r xs (txtF most xs e).2.2)(hO:Only [r] w w'):TxtTo r most xs e w (.returned (.slice none 0 0)) w':=
 ⟨Sl.no,rfl,by rw [h];rfl,SlAt.no _ _,by simp [Sl.bs,Sl.no],by rw [h];exact hr,hO⟩
theorem text_gen{r:Nat}{xs:List Int}{e:Int}{w:World}(h:RdrAt w r xs e)(hb:IsBy xs)(most:Nat)(hm:most≤1000000):Calls prog 105 #[.pointer (some ⟨r,0,none⟩),.int .i64 (most:Int)] w (TxtTo r most xs e w):=by
 have CG:=Ξ (count_gen h hb);obtain ⟨s,rfl,hr,hs,hne,hc⟩:=h.at_;have ER:=Ξ (err_on r _ e w hr);have c0:=hr.c 0 (.slice s.a s.xs.length s.c);have c1:=hr.c 1 (.int .i64 e);have f0:=hr.free 0;have f1:=hr.free 1;have mx:max (0:Int) (most:Int)=(most:Int):=by omega
 have mw:IntKind.u64.wrap (most:Int)=(most:Int):=by rw [show IntKind.u64.wrap (most:Int)=(most:Int) % 18446744073709551616 from rfl];omega
 have m0:(0:Int)≤(most:Int):=by omega
 by_cases he:e=0
 ·subst he;have HL:=cnt_le s.xs 0 0;have HP:=cnt_nonneg s.xs 0 0 hb (by omega);have HQ:=cnt_lt s.xs 0 0 hb (by omega) (by omega) (by omega);obtain ⟨nn,kk,ok,hq⟩:∃ n kk ok,cnt s.xs 0 0=(n,kk,ok):=⟨_,_,_,rfl⟩;unfold cntV at CG;rw [hq] at CG HL HP HQ;have errN:∀ er,txtF most s.xs 0=([],s.xs,er)→TxtTo r most s.xs 0 w (.returned (.slice none 0 0)) (w.setCell ⟨r,1,none⟩ (.int .i64 er)):=fun er h=>TxtTo.none_ (by rw [h]) (by rw [h];exact RdrAt.errAt hr hs hne hc) ((Ω [r] w).setCell (.inl (by simp)) _);cases ok with
  | false=>
   have N:=Ξ (errN 4 (by unfold txtF;rw [if_neg (by simp),hq,if_neg (by simp)]));clear h hr hs hne hc hb HL hq errN HP HQ;go_enter func105,ntmps105;go_wp2_with fail;refine ER.out.mono ?_;rintro _ w' ⟨rfl,hw'⟩;subst w';go_wp2_with fail;refine CG.out.mono ?_;rintro _ w' ⟨rfl,hw'⟩;subst w';go_wp2_with fail;go_ret;exact N.out
  | true=>
   obtain ⟨k1,k2⟩:=HL rfl;simp only [Int.natCast_zero,Int.zero_add] at k1 k2;obtain ⟨k,rfl⟩:=Int.eq_ofNat_of_zero_le (show 0≤kk by omega);obtain ⟨n,rfl⟩:=Int.eq_ofNat_of_zero_le (show 0≤nn from HP);by_cases hbig:most<n
   ·have db:decide ((most:Int)<(n:Int))=true:=Γ (by omega);have db':decide (most<n)=true:=Γ hbig;have N:=Ξ (errN 3 (by unfold txtF;rw [if_neg (by simp),hq,if_pos rfl,if_pos (by simp only;omega)]));clear h hr hs hne hc hb HL hq errN k1 k2 HP HQ hbig;go_enter func105,ntmps105;go_wp2_with fail;refine ER.out.mono ?_;rintro _ w' ⟨rfl,hw'⟩;subst w';go_wp2_with fail;refine CG.out.mono ?_;rintro _ w' ⟨rfl,hw'⟩;subst w';go_wp2_with fail;go_ret;exact N.out
   ·have db:decide ((most:Int)<(n:Int))=false:=Λ (by omega);have db':decide (most<n)=false:=Λ hbig;obtain ⟨m,hmm⟩:∃ m,s.xs.length=m:=⟨_,rfl⟩;have hle:=hs.le;rw [hmm] at k2 c0 hle;have hk2:k≤m:=(by omega);have es:IntKind.i64.wrap ((m:Int)-(k:Int))=((m-k:Nat):Int):=by rw [show (m:Int)-(k:Int)=((m-k:Nat):Int) by omega];exact IntWalk.i64_in _ (by omega)
    have es':wrap64 ((m:Int)-(k:Int))=((m-k:Nat):Int):=by rw [show (m:Int)-(k:Int)=((m-k:Nat):Int) by omega];unfold wrap64;omega
    have eu:IntKind.u64.wrap ((m-k:Nat):Int)=((m-k:Nat):Int):=by rw [show IntKind.u64.wrap ((m-k:Nat):Int)=((m-k:Nat):Int) % 18446744073709551616 from rfl];omega
    obtain ⟨q,hqq⟩:∃ q,m-k=q:=⟨_,rfl⟩;rw [hqq] at es es' eu;by_cases hlong:q<n
    ·have dl:decide ((q:Int)<(n:Int))=true:=Γ (by omega);have dl':decide (q<n)=true:=Γ hlong;have N:=Ξ (errN 4 (by unfold txtF;rw [if_neg (by simp),hq,if_pos rfl,if_neg (by simp only;omega),if_pos (by simp only;omega)]));clear h hr hs hne hc hb HL hq errN k1 k2 HP HQ hbig hqq hlong hle hmm hk2;go_enter func105,ntmps105;go_wp2_with fail;refine ER.out.mono ?_;rintro _ w' ⟨rfl,hw'⟩;subst w';go_wp2_with fail;refine CG.out.mono ?_;rintro _ w' ⟨rfl,hw'⟩;subst w';go_wp2_with fail;go_ret;exact N.out
    ·have dl:decide ((q:Int)<(n:Int))=false:=Λ (by omega);have dl':decide (q<n)=false:=Λ hlong;have wn:IntKind.i64.wrap (n:Int)=(n:Int):=IntWalk.i64_in _ (by omega);obtain ⟨j,hj⟩:∃ j,k+n=j:=⟨_,rfl⟩;have wj:IntKind.i64.wrap ((k:Int)+(n:Int))=(j:Int):=by rw [show (k:Int)+(n:Int)=(j:Int) by omega];exact IntWalk.i64_in _ (by omega)
     have e1:∀ y:World,(Instr.slice 30 (.slice s.a m s.c) (some (.int .i64 (k:Int))) (some (.int .i64 (j:Int))) none).run prog y=.ok (s.cut k j).v y:=fun y=>by rw [←hmm];exact run_cut underlying30 infoBy .i64 .i64 s (by omega) (by omega) hc y
     have e2:∀ y:World,(Instr.slice 30 (.slice s.a m s.c) (some (.int .i64 (j:Int))) none none).run prog y=.ok (s.cut j m).v y:=fun y=>by rw [←hmm];exact run_tail underlying30 infoBy .i64 s (by omega) y
     have CL:=Ξ (clone_u8 (hs.cut (l:=k) (k:=j) (by omega) (by omega) hc));have EX:Hid ((s.cut k j).xs=(s.xs.drop k).take n):=Ξ (by unfold Sl.cut;simp only;rw [show j-k=n by omega]);have HR:=Ξ (Ψ hr (Ψ hs (Ψ hne hc)));have HT:Hid (txtF most s.xs 0=((s.xs.drop k).take n,s.xs.drop j,0)):=Ξ (by unfold txtF;rw [if_neg (by simp),hq,if_pos rfl,if_neg (by simp only;omega),if_neg (by simp only;omega)];simp [hj]);have HJ:Hid (j≤s.xs.length):=Ξ (by omega);have HMM:=Ξ hmm;obtain ⟨v1,hv1⟩:∃ v,v=(s.cut k j).v:=⟨_,rfl⟩;rw [←hv1] at e1 CL;have ev2:(s.cut j m).v=.slice (s.cut j m).a (m-j) (s.cut j m).c:=by unfold Sl.v;rw [Sl.cut_len s (by omega) (by omega)]
     have V2:=Ξ ev2;rw [ev2] at e2;generalize ha2:(s.cut j m).a=a2 at *;generalize hk2:(s.cut j m).c=kk2 at *;clear h hr hs hne hc hb HL hq errN k1 k2 HP HQ hbig hqq hlong hle hmm hj hv1 ev2 ha2 hk2;go_enter func105,ntmps105;go_wp2_with fail;refine ER.out.mono ?_;rintro _ w' ⟨rfl,hw'⟩;subst w';go_wp2_with fail;refine CG.out.mono ?_;rintro _ w' ⟨rfl,hw'⟩;subst w';go_wp2_with fail;refine CL.out.mono ?_;rintro _ w3 ⟨p,rfl,ep,hp,hpb,hb3⟩;have O3:=Ξ ((Ω [] w).below hb3);have R3:=HR.out.1.only O3.out (by simp);have z0:w3.cell? ⟨r,0,none⟩=some (.slice s.a m s.c):=by rw [R3.cell 0,←HMM.out];rfl
     have g0:=R3.free 0;have N:Hid (TxtTo r most s.xs 0 w (.returned p.v) (w3.setCell ⟨r,0,none⟩ (.slice a2 (m-j) kk2))):=Ξ (by
      have k4:Only [r] w3 (w3.setCell ⟨r,0,none⟩ (.slice a2 (m-j) kk2)):=(Ω [r] w3).setCell (.inl (by simp)) _;refine ⟨p,rfl,by rw [HT.out,ep,EX.out],hp.only k4 (fun b hb hm=>?_),hpb,?_,(O3.out.mono (by simp)).trans k4 (by intro i hi;left;simp at hi;simp [hi])⟩
      ·simp at hm;have:=hpb b hb;have:=HR.out.1.lt;omega
      ·rw [HT.out,←V2.out];have h:=RdrAt.cutAt R3 (HR.out.2.1.only O3.out (by simp)) HR.out.2.2.1 HR.out.2.2.2 HJ.out;rw [HMM.out] at h;exact h)
     clear ep hp hpb hb3 R3 CL;unfold Sl.v at N ⊢;go_wp2_with fail;go_ret;exact N.out
 ·have d1:decide (e=0)=false:=Λ he;have d2:(e == 0)=false:=by simp [he]
  have N:Hid (TxtTo r most s.xs e w (.returned (.slice none 0 0)) w):=Ξ (by
   have ht:txtF most s.xs e=([],s.xs,e):=by unfold txtF;rw [if_pos he]
   exact TxtTo.none_ (by rw [ht]) (by rw [ht];exact h) (Ω _ _))
  clear h hr hs hne hc hb;go_enter func105,ntmps105;go_wp2_with fail;refine ER.out.mono ?_;rintro _ w' ⟨rfl,hw'⟩;subst w';go_wp2_with fail;go_ret;exact N.out
theorem one_u8(xs:List Int):∀ u∈xs.map (Value.int .u8),u.oneCell'=true:=fun u hu=>by obtain ⟨x,_,rfl⟩:=List.mem_map.1 hu;rfl
def GivesX(zs:List Int)(w:World)(e:Ending)(w':World):Prop:=∃ g,e=.returned (.slice (some ⟨g,0,none⟩) zs.length zs.length)∧w'.ownsRow w.heap.size 5 1 (.slice (some ⟨g,0,none⟩) zs.length zs.length) zs.length (zs.map (Value.int .u8))∧Below w.heap.size w w'
theorem GivesX.gives{zs:List Int}{w:World}{e:Ending}{w':World}(h:GivesX zs w e w'):Gives zs w e w':=by obtain ⟨g,h1,h2,h3⟩:=h;exact ⟨_,h1,h2,h3⟩
theorem wpList_make_nk{P:Program}{w:World}{ops:Array Oper}{rest:List Oper}{o:Oper}{a:Act}{Q:Exit→Act→World→Prop}(hg:o.guard=none)(l c:Operand)(t:TypeId)(hop:o.op=Op.makeSlice t l c)(e:TypeId)(i:TypeInfo)(z:Value)(h1:P.underlying t=some (.slice e))(h2:P.info? e=some i)(h3:i.zero=some z)(h4:i.size=1)(hz:z.cells=#[z])
  (kl kc:IntKind) (m n:Nat) (hl:a.eval l=.int kl (m:Int)) (hc:a.eval c=.int kc (n:Int)) (hmn:m≤n) (b2:i.bytes * n≤281474976710656) (b3:n≤maxLen)
  (hK:∀ w',Row w' w.heap.size (List.replicate n z).toArray e→Only [] w w'→w'.heap.size=w.heap.size+1→wpList P ops Q rest (a.put o.dst (.slice (some ⟨w.heap.size,0,none⟩) m n)) w'):wpList P ops Q (o :: rest) a w:=by
 refine wpList_plain hg fun K hK'=>?_;have hb':(i.bytes:Int) * (n:Int)≤281474976710656:=by
  have h:((i.bytes * n:Nat):Int)≤281474976710656:=by omega
  rwa [Int.natCast_mul] at h
 have hr:=run_make (P:=P) w t e i z h1 h2 h3 kl kc m n (by omega) (by omega) hb' (by unfold maxLen at b3;omega);simp only [Int.toNat_natCast,h4,Nat.mul_one,hz,madeCells_one] at hr;unfold Oper.wp;simp [execOp,hop,hl,hc,hr,Result.andThen];refine hK' _ _ (hK _ ?_ ((Ω _ _).alloc _) (by simp));rw [List.toArray_replicate];exact Φ _ _ _
theorem own_of_splice{w:World}{g base m k:Nat}{xs:List Int}(hx:xs.length=m)(hg:w.heap[g]? = some (.cells (splice (List.replicate (m+k) (Value.int .u8 0)) 0 (xs.map (Value.int .u8))).toArray 5 (0,0)))(hb:base≤g)(hm:m+k≤maxLen) :
  w.ownsRow base 5 1 (.slice (some ⟨g,0,none⟩) m (m+k)) m (xs.map (Value.int .u8)):=by
 refine ⟨by simp [hx],.inr ⟨g,m+k,_,rfl,hb,hg,by omega,hm,?_,?_⟩⟩
 ·rw [List.size_toArray,length_splice _ _ _ (by simp [hx]),List.length_replicate];omega
 ·simp [splice,hx]
structure OInvP(n:Int)(xs:List Int)(w wr:World)(v:Value)(m i:Nat):Prop where
 own:wr.ownsRow w.heap.size 5 1 v (m+i) ((xs++leB n i).map (Value.int .u8))
 bl:Below w.heap.size w wr
theorem OInvP.push{n:Int}{xs:List Int}{w wr w5:World}{v v5:Value}{m i:Nat}(h:OInvP n xs w wr v m i)(ho:w5.ownsRow w.heap.size 5 1 v5 (m+i+1) ((xs++leB n i).map (Value.int .u8)++[.int .u8 (leAt n i)]))(k:Only v.ownBlock.toList wr w5):OInvP n xs w w5 v5 m (i+1):=
 ⟨by rw [leB_succ,←List.append_assoc,List.map_append];exact ho,h.bl.trans (k.toBelow h.bl.size fun b hb=>(h.own.lt b (by simpa using hb)).1)⟩
theorem put64_x(n:Int)(h0:0≤n)(h1:n<18446744073709551616)(a:Option Addr)(m c:Nat)(xs:List Int)(w:World)(hx:xs.length=m)(hi:Ints .u8 w (.slice a m c) xs)(hm:m≤1000000):Calls prog 182 #[.slice a m c,.int .u64 n,.int .i64 8] w (GivesX (xs++leB n 8) w):=by
 obtain ⟨i0',hi0,hz0,hz1,hz2⟩:=info_parts infoBy;have H1:=Ξ h1;have HX:=Ξ hx;have HM:=Ξ hm;have em:IntKind.i64.wrap ((m:Int)+8)=(m:Int)+8:=IntWalk.i64_in _ (by omega);have HI:=Ξ hi;clear h1 hi hx hm;go_enter func182,ntmps182;go_wp2_with (first
  | (refine wpList_make_nk rfl _ _ _ rfl _ i0' _ underlying30 hi0 hz0 hz1 rfl .i64 .i64 m (m+8) rfl rfl (by omega) (by rw [hz2];have:=HM.out;omega) (by unfold maxLen;have:=HM.out;omega) ?_;intro w1 hr1 ho1 hs1;have R1:=Ξ hr1;have O1:=Ξ ho1;clear hr1 ho1 hs1)
  | (refine wpList_copy_splice rfl (.tmp 16) (.tmp 17) 30 30 rfl 5 underlying30 (by rw [hi0];simp [hz1]) (some ⟨w.heap.size,0,none⟩) a m (m+8) m c rfl rfl w.heap.size 0 (List.replicate (m+8) (.int .u8 0)) 5 R1.out (xs.map (Value.int .u8)) (by rw [List.length_map,HX.out];exact (Nat.min_self m).symm) ?s1 ?s2 (one_u8 xs) w.heap.size w (O1.out.toBelow (Θ _) (by simp)) (Θ _) ?s3))
 case s1=>intro hp;rw [HX.out] at hp;have h:=HI.out;obtain ⟨b',off',cap',hv,hc⟩:=h.shape (by rw [HX.out];exact hp);simp only [Value.slice.injEq] at hv;obtain ⟨rfl,_,rfl⟩:=hv;refine ⟨⟨b',off',none⟩,rfl,fun j z hz=>?_⟩;have hlt:=(List.getElem?_eq_some_iff.1 hz).1;have hcj:=hc j hlt;rw [hz] at hcj;rw [add_plain];exact (O1.out.cell (World.block_lt_of_cell? w _ hcj) (by simp)).trans hcj
 case s2=>simp [HX.out]
 case s3=>
  intro w2 hr2 hb2;have I0:Hid (OInvP n xs w w2 (.slice (some ⟨w.heap.size,0,none⟩) m (m+8)) m 0):=Ξ ⟨by
   have h:=own_of_splice (base:=w.heap.size) HX.out hr2.out (Θ _) (by unfold maxLen;have:=HM.out;omega);have e:xs++leB n 0=xs:=by simp [leB]
   rw [e];exact h,hb2⟩
  clear hr2 hb2 R1 O1;go_wp2_with fail;go_loopw [7,8,20] (fun v _ u wr=>∃ i:Nat,i≤8∧u=.int .i64 i∧v=.slice (some ⟨w.heap.size,0,none⟩) (m+i) (m+8)∧Hid (OInvP n xs w wr (.slice (some ⟨w.heap.size,0,none⟩) (m+i) (m+8)) m i)) (fun _ _ u _=>8-(intOf u).toNat)
  case atStart=>exact ⟨0,by omega,rfl,rfl,I0⟩
  case round=>
   clear I0;obtain ⟨i,hi,rfl,rfl,HJ⟩:=hrel;have i0:(0:Int)≤(i:Int):=Int.natCast_nonneg _;by_cases hlt:i<8
   ·have d1:decide ((i:Int)<8)=true:=Γ (by omega);have i2:(i:Int)<8:=(by omega);go_wp2_with (at_builtin;refine wpList_append_fits _ rfl (.tmp 23) (.tmp 29) 30 rfl w.heap.size 5 i0' 1 underlying30 hi0 hz1 w.heap.size (m+i) (m+8) _ rfl (HJ.out.own.alloc _) ⟨wr.heap.size,0,none⟩ 1 1 [.int .u8 (leAt n i)] rfl rfl (fun q u hq=>by rcases q with _|q<;>simp at hq<;>subst hq<;>simp [go_sem,leAt]) (by simp [Value.oneCell']) (by omega) ?_);intro w5 hown5 hg5;have F2:Hid (OInvP n xs w w5 (.slice (some ⟨w.heap.size,0,none⟩) (m+(i+1)) (m+8)) m (i+1)):=Ξ (HJ.out.push (by rw [List.map_append,List.append_assoc];exact hown5) (((Ω _ wr).alloc _).grown hg5 (fun k hk=>.inl (by simpa [Value.ownBlock] using hk.symm))));clear hown5 hg5;go_wp2_with fail;go_roundw;case rel=>exact ⟨i+1,by omega,by go_num,by first|rfl|(rw [Nat.add_assoc]),F2⟩
    case measure=>simp [intOf];omega
   ·have d1:decide ((i:Int)<8)=false:=Λ (by omega);have E:Hid (i=8):=Ξ (by omega);go_wp2_with fail;go_ret;have hh:=HJ.out;rw [E.out] at hh;have hlen:(xs++leB n 8).length=m+8:=by rw [List.length_append,HX.out,leB_len]
    refine ⟨w.heap.size,by rw [hlen,E.out];rfl,?_,hh.bl⟩;rw [hlen];exact hh.own
theorem put16_x(n:Int)(h0:0≤n)(h1:n<65536)(a:Option Addr)(m c:Nat)(xs:List Int)(w:World)(hx:xs.length=m)(hi:Ints .u8 w (.slice a m c) xs)(hm:m≤1000000):Calls prog 180 #[.slice a m c,.int .u16 n,.int .i64 2] w (GivesX (xs++leB n 2) w):=by
 obtain ⟨i0',hi0,hz0,hz1,hz2⟩:=info_parts infoBy;have H1:=Ξ h1;have HX:=Ξ hx;have HM:=Ξ hm;have em:IntKind.i64.wrap ((m:Int)+2)=(m:Int)+2:=IntWalk.i64_in _ (by omega);have HI:=Ξ hi;have wn:IntKind.u64.wrap n=n:=by rw [show IntKind.u64.wrap n=n % 18446744073709551616 from rfl];omega
 clear h1 hi hx hm;go_enter func180,ntmps180;go_wp2_with (first
  | (refine wpList_make_nk rfl _ _ _ rfl _ i0' _ underlying30 hi0 hz0 hz1 rfl .i64 .i64 m (m+2) rfl rfl (by omega) (by rw [hz2];have:=HM.out;omega) (by unfold maxLen;have:=HM.out;omega) ?_;intro w1 hr1 ho1 hs1;have R1:=Ξ hr1;have O1:=Ξ ho1;clear hr1 ho1 hs1)
  | (refine wpList_copy_splice rfl (.tmp 16) (.tmp 17) 30 30 rfl 5 underlying30 (by rw [hi0];simp [hz1]) (some ⟨w.heap.size,0,none⟩) a m (m+2) m c rfl rfl w.heap.size 0 (List.replicate (m+2) (.int .u8 0)) 5 R1.out (xs.map (Value.int .u8)) (by rw [List.length_map,HX.out];exact (Nat.min_self m).symm) ?s1 ?s2 (one_u8 xs) w.heap.size w (O1.out.toBelow (Θ _) (by simp)) (Θ _) ?s3))
 case s1=>intro hp;rw [HX.out] at hp;have h:=HI.out;obtain ⟨b',off',cap',hv,hc⟩:=h.shape (by rw [HX.out];exact hp);simp only [Value.slice.injEq] at hv;obtain ⟨rfl,_,rfl⟩:=hv;refine ⟨⟨b',off',none⟩,rfl,fun j z hz=>?_⟩;have hlt:=(List.getElem?_eq_some_iff.1 hz).1;have hcj:=hc j hlt;rw [hz] at hcj;rw [add_plain];exact (O1.out.cell (World.block_lt_of_cell? w _ hcj) (by simp)).trans hcj
 case s2=>simp [HX.out]
 case s3=>
  intro w2 hr2 hb2;have I0:Hid (OInvP n xs w w2 (.slice (some ⟨w.heap.size,0,none⟩) m (m+2)) m 0):=Ξ ⟨by
   have h:=own_of_splice (base:=w.heap.size) HX.out hr2.out (Θ _) (by unfold maxLen;have:=HM.out;omega);have e:xs++leB n 0=xs:=by simp [leB]
   rw [e];exact h,hb2⟩
  clear hr2 hb2 R1 O1;go_wp2_with fail;go_loopw [7,8,20] (fun v _ u wr=>∃ i:Nat,i≤2∧u=.int .i64 i∧v=.slice (some ⟨w.heap.size,0,none⟩) (m+i) (m+2)∧Hid (OInvP n xs w wr (.slice (some ⟨w.heap.size,0,none⟩) (m+i) (m+2)) m i)) (fun _ _ u _=>2-(intOf u).toNat)
  case atStart=>exact ⟨0,by omega,rfl,rfl,I0⟩
  case round=>
   clear I0;obtain ⟨i,hi,rfl,rfl,HJ⟩:=hrel;have i0:(0:Int)≤(i:Int):=Int.natCast_nonneg _;by_cases hlt:i<2
   ·have d1:decide ((i:Int)<2)=true:=Γ (by omega);have i2:(i:Int)<2:=(by omega);go_wp2_with (at_builtin;refine wpList_append_fits _ rfl (.tmp 23) (.tmp 30) 30 rfl w.heap.size 5 i0' 1 underlying30 hi0 hz1 w.heap.size (m+i) (m+2) _ rfl (HJ.out.own.alloc _) ⟨wr.heap.size,0,none⟩ 1 1 [.int .u8 (leAt n i)] rfl rfl (fun q u hq=>by rcases q with _|q<;>simp at hq<;>subst hq<;>simp [go_sem,leAt]) (by simp [Value.oneCell']) (by omega) ?_);intro w5 hown5 hg5;have F2:Hid (OInvP n xs w w5 (.slice (some ⟨w.heap.size,0,none⟩) (m+(i+1)) (m+2)) m (i+1)):=Ξ (HJ.out.push (by rw [List.map_append,List.append_assoc];exact hown5) (((Ω _ wr).alloc _).grown hg5 (fun k hk=>.inl (by simpa [Value.ownBlock] using hk.symm))));clear hown5 hg5;go_wp2_with fail;go_roundw;case rel=>exact ⟨i+1,by omega,by go_num,by first|rfl|(rw [Nat.add_assoc]),F2⟩
    case measure=>simp [intOf];omega
   ·have d1:decide ((i:Int)<2)=false:=Λ (by omega);have E:Hid (i=2):=Ξ (by omega);go_wp2_with fail;go_ret;have hh:=HJ.out;rw [E.out] at hh;have hlen:(xs++leB n 2).length=m+2:=by rw [List.length_append,HX.out,leB_len]
    refine ⟨w.heap.size,by rw [hlen,E.out];rfl,?_,hh.bl⟩;rw [hlen];exact hh.own
theorem Put64_x(n:Int)(h0:0≤n)(h1:n<18446744073709551616)(a:Option Addr)(m c:Nat)(xs:List Int)(w:World)(hx:xs.length=m)(hi:Ints .u8 w (.slice a m c) xs)(hm:m≤1000000):Calls prog 125 #[.slice a m c,.int .u64 n] w (GivesX (xs++leB n 8) w):=by have K:=Ξ (put64_x n h0 h1 a m c xs w hx hi hm);clear h0 h1 hx hi hm;go_enter func125,ntmps125;go_wp2_with fail;refine K.out.mono ?_;rintro _ w2 ⟨g,rfl,hv,hb⟩;obtain ⟨L,hL⟩:∃ L,(xs++leB n 8).length=L:=⟨_,rfl⟩;rw [hL] at hv;rw [hL];have HL:=Ξ hL;have OV:=Ξ hv;have B2:=Ξ hb;clear hv hb hL;go_wp2_with fail;go_ret;exact ⟨g,by rw [HL.out];rfl,by rw [HL.out];exact OV.out,B2.out⟩
theorem Put64_on(n:Int)(h0:0≤n)(h1:n<18446744073709551616)(a:Option Addr)(m c:Nat)(xs:List Int)(w:World)(hx:xs.length=m)(hi:Ints .u8 w (.slice a m c) xs)(hm:m≤1000000):Calls prog 125 #[.slice a m c,.int .u64 n] w (Gives (xs++leB n 8) w):=
 (Put64_x n h0 h1 a m c xs w hx hi hm).mono fun _ _ h=>h.gives
theorem Put16_x(n:Int)(h0:0≤n)(h1:n<65536)(a:Option Addr)(m c:Nat)(xs:List Int)(w:World)(hx:xs.length=m)(hi:Ints .u8 w (.slice a m c) xs)(hm:m≤1000000):Calls prog 120 #[.slice a m c,.int .u16 n] w (GivesX (xs++leB n 2) w):=by have K:=Ξ (put16_x n h0 h1 a m c xs w hx hi hm);clear h0 h1 hx hi hm;go_enter func120,ntmps120;go_wp2_with fail;refine K.out.mono ?_;rintro _ w2 ⟨g,rfl,hv,hb⟩;obtain ⟨L,hL⟩:∃ L,(xs++leB n 2).length=L:=⟨_,rfl⟩;rw [hL] at hv;rw [hL];have HL:=Ξ hL;have OV:=Ξ hv;have B2:=Ξ hb;clear hv hb hL;go_wp2_with fail;go_ret;exact ⟨g,by rw [HL.out];rfl,by rw [HL.out];exact OV.out,B2.out⟩
theorem Put16_on(n:Int)(h0:0≤n)(h1:n<65536)(a:Option Addr)(m c:Nat)(xs:List Int)(w:World)(hx:xs.length=m)(hi:Ints .u8 w (.slice a m c) xs)(hm:m≤1000000):Calls prog 120 #[.slice a m c,.int .u16 n] w (Gives (xs++leB n 2) w):=
 (Put16_x n h0 h1 a m c xs w hx hi hm).mono fun _ _ h=>h.gives
theorem or128:∀ x:Int,0≤x→x<256→bits .or .u8 x 128=x % 128+128:=fun x h0 h1=>by
 have key:∀ k:Fin 256,bits .or .u8 ((k.val:Nat):Int) 128=((k.val:Nat):Int) % 128+128:=by decide +kernel
 have:=key ⟨x.toNat,by omega⟩;simpa [Int.toNat_of_nonneg h0] using this
structure UvInv(n:Nat)(xs:List Int)(w wr:World)(v:Value)(k:Nat)(pre:List Int):Prop where
 own:wr.ownsRow w.heap.size 5 1 v (xs.length+pre.length) ((xs++pre).map (Value.int .u8))
 bl:Below w.heap.size w wr
 lim:k * 128 ^ pre.length≤n
 eq:pre++uvB k=uvB n
theorem UvInv.len{n:Nat}{xs:List Int}{w wr:World}{v:Value}{k:Nat}{pre:List Int}(h:UvInv n xs w wr v k pre)(hn:n<18446744073709551616)(hk:0<k):pre.length≤9:=by
 have h1:=h.lim;refine Decidable.byContradiction fun hc=>?_;have h2:(128:Nat) ^ 10≤128 ^ pre.length:=Nat.pow_le_pow_right (by omega) (by omega);have h3:=Nat.le_mul_of_pos_left (128 ^ pre.length) hk;have h4:(128:Nat) ^ 10=1180591620717411303424:=by decide
 omega
theorem UvInv.push{n:Nat}{xs:List Int}{w wr w5:World}{v v5:Value}{k:Nat}{pre:List Int}(h:UvInv n xs w wr v k pre)(hk:128≤k)(ho:w5.ownsRow w.heap.size 5 1 v5 (xs.length+pre.length+1) ((xs++pre).map (Value.int .u8)++[.int .u8 ((k % 128+128:Nat):Int)]))(kk:Only v.ownBlock.toList wr w5):UvInv n xs w w5 v5 (k / 128) (pre++[((k % 128+128:Nat):Int)]):=by
 refine ⟨by rw [List.length_append,List.length_singleton,←Nat.add_assoc,←List.append_assoc,List.map_append];exact ho,h.bl.trans (kk.toBelow h.bl.size fun b hb=>(h.own.lt b (by simpa using hb)).1),?_,?_⟩
 ·rw [List.length_append,List.length_singleton,Nat.pow_succ,Nat.mul_comm (128 ^ pre.length) 128,←Nat.mul_assoc];exact Nat.le_trans (Nat.mul_le_mul_right _ (Nat.div_mul_le_self k 128)) h.lim
 ·rw [←h.eq,uvB_big (n:=k) (by omega),List.append_assoc];rfl
theorem putuv_gen{s:Sl}{w:World}(h:SlRd .u8 w s)(n:Nat)(hn:n<18446744073709551616)(hl:s.xs.length≤1000000):Calls prog 123 #[s.v,.int .u64 (n:Int)] w (Gives (s.xs++uvB n) w):=by
 obtain ⟨i0',hi0,hz0,hz1,hz2⟩:=info_parts infoBy;have K:=Ξ (clone_gives h);have HN:=Ξ hn;have HX:=Ξ hl;obtain ⟨xs,hxs⟩:∃ xs,s.xs=xs:=⟨_,rfl⟩;unfold Sl.v at K ⊢;rw [hxs] at HX K ⊢;clear h hn hl hxs;go_enter func123,ntmps123;go_wp2_with fail;refine K.out.mono ?_;rintro _ w2 ⟨v,rfl,hv,hb⟩;have I0:Hid (UvInv n xs w w2 v n []):=Ξ ⟨by simpa using hv,hb,by simp,rfl⟩;clear hv hb K;go_wp2_with fail;go_loopw [5,1] (fun v u wr=>∃ (k:Nat) (pre:List Int),u=.int .u64 (k:Int)∧Hid (UvInv n xs w wr v k pre)∧Hid (pre.length≤9)) (fun _ u _=>(intOf u).toNat)
 case atStart=>exact ⟨n,[],rfl,I0,Ξ (by simp)⟩
 case round=>
  clear I0;obtain ⟨k,pre,rfl,HI,HP⟩:=hrel;have KB:Hid (k<18446744073709551616):=Ξ (by have h:=HI.out.lim;have h1:1≤128 ^ pre.length:=Nat.one_le_pow _ _ (by omega);have h2:=Nat.le_mul_of_pos_right k h1;have:=HN.out;omega)
  by_cases hlt:128≤k
  ·have d1:decide ((128:Int)≤(k:Int))=true:=Γ (by omega);have d1':decide (128≤k)=true:=Γ hlt;have eu:IntKind.u8.wrap (k:Int)=(k:Int) % 256:=rfl;have eo:bits .or .u8 ((k:Int) % 256) 128=((k % 128+128:Nat):Int):=by rw [or128 _ (by omega) (by omega)];omega
   have es:(k:Int) / 2 ^ 7=((k / 128:Nat):Int):=by rw [show (2:Int) ^ 7=128 from rfl];omega
   have es':(k:Int) / 128=((k / 128:Nat):Int):=(by omega);have HK:=Ξ hlt;obtain ⟨y,hy⟩:∃ y,((k % 128+128:Nat):Int)=y:=⟨_,rfl⟩;have HY:=Ξ hy;rw [hy] at eo;obtain ⟨k2,hk2⟩:∃ y,k / 128=y:=⟨_,rfl⟩;have HK2:=Ξ hk2;rw [hk2] at es es';clear hy hk2 hlt;go_wp2_with (at_builtin;refine wpList_append_at rfl (.tmp 12) (.tmp 16) 30 rfl w.heap.size 5 i0' (.int .u8 0) 1 1 underlying30 hi0 hz0 hz1 hz2 rfl (by decide) u5 (xs.length+pre.length) _ rfl (HI.out.own.alloc _) ⟨wr.heap.size,0,none⟩ 1 1 [.int .u8 y] rfl rfl (fun q u hq=>by rcases q with _|q<;>simp at hq<;>subst hq<;>simp [go_sem]) (by simp [Value.oneCell']) (by unfold maxLen;have:=HX.out;have:=HP.out;omega) (by have:=HX.out;have:=HP.out;omega) (by have:=HI.out.bl.size;simp;omega) ?_);intro v5 w5 hown5 hg5 hf5;have F2:Hid (UvInv n xs w w5 v5 k2 (pre++[y])):=Ξ (by rw [←HK2.out,←HY.out];rw [←HY.out] at hown5;exact HI.out.push HK.out (by first|exact hown5|(rw [List.map_append,List.append_assoc];exact hown5)|(simpa using hown5)) (((Ω _ wr).alloc _).grown hg5 (fun k hk=>.inl (by simp [hk]))))
   have L9:Hid ((pre++[y]).length≤9):=Ξ (F2.out.len HN.out (by have:=HK.out;have:=HK2.out;omega));have ME:Hid (k2<k):=Ξ (by have:=HK.out;have:=HK2.out;omega);clear hown5 hg5 hf5;go_wp2_with fail;go_roundw;case rel=>exact ⟨k2,pre++[y],by first|rfl|go_num,F2,L9⟩
   case measure=>have:=ME.out;simp [intOf];omega
  ·have d1:decide ((128:Int)≤(k:Int))=false:=Λ (by omega);have d1':decide (128≤k)=false:=Λ hlt;have eu:IntKind.u8.wrap (k:Int)=(k:Int):=by rw [show IntKind.u8.wrap (k:Int)=(k:Int) % 256 from rfl];omega
   have eu':(k:Int) % 256=(k:Int):=(by omega);have HK:Hid (pre++[(k:Int)]=uvB n):=Ξ (by rw [←HI.out.eq,uvB_small (by omega)]);go_wp2_with (at_builtin;refine wpList_append_at rfl (.tmp 18) (.tmp 21) 30 rfl w.heap.size 5 i0' (.int .u8 0) 1 1 underlying30 hi0 hz0 hz1 hz2 rfl (by decide) u5 (xs.length+pre.length) _ rfl (HI.out.own.alloc _) ⟨wr.heap.size,0,none⟩ 1 1 [.int .u8 (k:Int)] rfl rfl (fun q u hq=>by rcases q with _|q<;>simp at hq<;>subst hq<;>simp [go_sem]) (by simp [Value.oneCell']) (by unfold maxLen;have:=HX.out;have:=HP.out;omega) (by have:=HX.out;have:=HP.out;omega) (by have:=HI.out.bl.size;simp;omega) ?_);intro v5 w5 hown5 hg5 hf5;have B5:Hid (Below w.heap.size w w5):=Ξ (HI.out.bl.trans ((((Ω _ wr).alloc _).grown hg5 (fun k hk=>.inl (by simp [hk]:k∈u5.ownBlock.toList))).toBelow HI.out.bl.size fun b hb=>(HI.out.own.lt b (by simpa using hb)).1));have O5:=Ξ hown5;clear hown5 hg5 hf5;go_wp2_with fail;go_ret;refine ⟨v5,rfl,?_,B5.out⟩;have h:=O5.out;rw [←HK.out,List.length_append,List.length_append,List.length_singleton,←Nat.add_assoc];simpa using h
theorem puttext_gen{s t:Sl}{w:World}(h:SlRd .u8 w s)(ht:SlRd .u8 w t)(hl:s.xs.length≤1000000)(hl2:t.xs.length≤1000000):Calls prog 126 #[s.v,t.v] w (Gives (s.xs++textB t.xs) w):=by
 obtain ⟨i0',hi0,hz0,hz1,hz2⟩:=info_parts infoBy;obtain ⟨m,hm⟩:∃ m,t.xs.length=m:=⟨_,rfl⟩;have K:=Ξ (putuv_gen h m (by omega) hl);have HT:=Ξ ht.src;have HM:=Ξ (Ψ hm hl2);have HL:=Ξ hl;have UL:=Ξ (uvB_len 3 m (by omega) (by omega));have wm:IntKind.u64.wrap (m:Int)=(m:Int):=by rw [show IntKind.u64.wrap (m:Int)=(m:Int) % 18446744073709551616 from rfl];omega
 unfold Sl.v at HT K ⊢;rw [hm] at HT ⊢;obtain ⟨xs,hxs⟩:∃ xs,s.xs=xs:=⟨_,rfl⟩;rw [hxs] at K HL ⊢;clear h ht hl hl2 hm hxs;go_enter func126,ntmps126;go_wp2_with fail;refine K.out.mono ?_;rintro _ w2 ⟨v,rfl,hv,hb⟩;have HV:=Ξ (Ψ hv hb);clear hv hb K;go_wp2_with (at_builtin;refine wpList_append_src rfl (.tmp 9) (.tmp 10) 30 rfl w.heap.size 5 i0' (.int .u8 0) 1 1 underlying30 hi0 hz0 hz1 hz2 rfl (by decide) v (xs++uvB m).length _ rfl HV.out.1 (.slice t.a m t.c) m (t.xs.map (Value.int .u8)) rfl (HT.out.below HV.out.2) (by simp [Value.oneCell']) (by have:=HM.out;have:=HL.out;have:=UL.out;simp;unfold maxLen;omega) (by have:=HM.out;have:=HL.out;have:=UL.out;simp;omega) HV.out.2.size ?_);intro v5 w5 hown5 hg5;have N:Hid (Gives (xs++textB t.xs) w (.returned v5) w5):=Ξ (by refine ⟨v5,rfl,?_,HV.out.2.trans (((Ω _ w2).grown hg5 (fun k hk=>.inl (by simp [hk]:k∈v.ownBlock.toList))).toBelow HV.out.2.size fun b hb=>(HV.out.1.lt b (by simpa using hb)).1)⟩;unfold textB;rw [←List.append_assoc,List.map_append,List.length_append,HM.out.1];simpa using hown5)
 clear hown5 hg5;go_wp2_with fail;go_ret;exact N.out
theorem Gives.at_{B:Nat}{zs:List Int}{w:World}{e:Ending}{w':World}(h:Gives zs w e w')(hB:B≤w.heap.size):GivesAt B zs w e w':=by obtain ⟨v,h1,h2,h3⟩:=h;exact ⟨v,h1,own_mono h2 hB,h3.mono hB⟩
theorem SlRd.same{q:IntKind}{w y:World}{s:Sl}(h:SlRd q w s)(hb:s.xs≠[]→∀ b∈s.bs,y.heap[b]? = w.heap[b]?):SlRd q y s:=by
 refine ⟨?_,fun hne b hm=>?_,h.nn,h.le⟩
 ·rcases h.ints with h1|⟨b,off,cap,e,hc⟩
  ·exact .inl h1
  ·refine .inr ⟨b,off,cap,e,fun i hi=>?_⟩;have hm:b∈s.bs:=by unfold Sl.v at e;simp only [Value.slice.injEq] at e;simp [Sl.bs,e.1]
   rw [World.cell?_of_block (w:=w) (hb (fun e=>by rw [e] at hi;simp at hi) b hm)];exact hc i hi
 ·have h1:=h.lt hne b hm;have h2:=hb hne b hm;rw [Array.getElem?_eq_getElem h1] at h2;exact (Array.getElem?_eq_some_iff.1 h2).1
def Sl.kb(s:Sl):List Nat:=if s.xs=[] then [] else s.bs
theorem SlRd.kb_lt{q:IntKind}{w:World}{s:Sl}(h:SlRd q w s):∀ b∈s.kb,b<w.heap.size:=fun b hb=>by
 unfold Sl.kb at hb;split at hb
 ·simp at hb
 ·rename_i hx;exact h.lt hx b hb
theorem SlRd.kb_same{q:IntKind}{w y:World}{s:Sl}(h:SlRd q w s)(hb:∀ b∈s.kb,y.heap[b]? = w.heap[b]?):SlRd q y s:=
 h.same fun hne b hm=>hb b (by unfold Sl.kb;rw [if_neg hne];exact hm)
theorem row_same{w y:World}{g:Nat}{cs:Array Value}{T:TypeId}(h:Row w g cs T)(hb:y.heap[g]? = w.heap[g]?):Row y g cs T:=by unfold Row at h ⊢;rw [hb];exact h
theorem u161_on(n:Int)(h0:0≤n)(h1:n<65536)(g:Nat)(B:Nat)(y:World)(hg:Row y g #[.int .i64 n] 3)(hB:B≤y.heap.size)(v:Value)(xs:List Int)(ho:y.ownsRow B 5 1 v xs.length (xs.map (Value.int .u8)))(hl:xs.length+(leB n 2).length≤1000000) :
  Calls prog 119 #[v,.pointer (some ⟨g,0,none⟩)] y (GivesAt B (xs++leB n 2) y):=by
 have c0:=hg.c 0 (.int .i64 n);obtain ⟨s,rfl,rfl,hs,_,_⟩:=own_sl ho (by omega);have wn:IntKind.u16.wrap n=n:=by rw [show IntKind.u16.wrap n=n % 65536 from rfl];omega
 have HB:=Ξ hB;have K:=Ξ ((Put16_on n h0 (by omega) s.a s.xs.length s.c s.xs y rfl hs.ints (by omega)));clear hg ho hl hB h0 h1 hs;unfold Sl.v at K ⊢;go_enter func119,ntmps119;go_wp2_with fail;refine K.out.mono ?_;intro e w' hp;have N:=Ξ (hp.at_ HB.out);obtain ⟨v',rfl,_⟩:=hp;go_wp2_with fail;go_ret;exact N.out
theorem u16_on(n:Int)(h0:0≤n)(h1:n<65536)(w:World):Calls prog 68 #[.int .i64 n] w fun e w'=>∃ fv K,e=.returned fv∧Writes w' fv (leB n 2) K∧(∀ b∈K,w.heap.size≤b)∧Below w.heap.size w w':=by have hmf:=hmf_;have R:=Ξ (Φ w #[.int .i64 n] 3);have H:=Ξ (Ψ h0 h1);clear h0 h1;go_enter func68,ntmps68;go_wp2_with fail;go_ret;refine ⟨_,[w.heap.size],rfl,⟨119,_,rfl,enters_of func119 (by kernel_rfl) rfl,by simp,fun B y hy hB hB2 v xs ho hl=>?_⟩,by simp,(Δ _ _).alloc (Θ _) _⟩;exact u161_on n H.out.1 H.out.2 w.heap.size B y (row_same R.out (hy w.heap.size (by simp))) hB2 v xs ho hl
theorem u641_on(n:Int)(h0:0≤n)(h1:n<18446744073709551616)(g:Nat)(B:Nat)(y:World)(hg:Row y g #[.int .u64 n] 34)(hB:B≤y.heap.size)(v:Value)(xs:List Int)(ho:y.ownsRow B 5 1 v xs.length (xs.map (Value.int .u8)))(hl:xs.length+(leB n 8).length≤1000000) :
  Calls prog 128 #[v,.pointer (some ⟨g,0,none⟩)] y (GivesAt B (xs++leB n 8) y):=by
 have c0:=hg.c 0 (.int .u64 n);obtain ⟨s,rfl,rfl,hs,_,_⟩:=own_sl ho (by omega);have HB:=Ξ hB;have K:=Ξ ((Put64_on n h0 (by omega) s.a s.xs.length s.c s.xs y rfl hs.ints (by omega)));clear hg ho hl hB h0 h1 hs;unfold Sl.v at K ⊢;go_enter func128,ntmps128;go_wp2_with fail;refine K.out.mono ?_;intro e w' hp;have N:=Ξ (hp.at_ HB.out);obtain ⟨v',rfl,_⟩:=hp;go_wp2_with fail;go_ret;exact N.out
theorem u64_on(n:Int)(h0:0≤n)(h1:n<18446744073709551616)(w:World):Calls prog 73 #[.int .u64 n] w fun e w'=>∃ fv K,e=.returned fv∧Writes w' fv (leB n 8) K∧(∀ b∈K,w.heap.size≤b)∧Below w.heap.size w w':=by have hmf:=hmf_;have R:=Ξ (Φ w #[.int .u64 n] 34);have H:=Ξ (Ψ h0 h1);clear h0 h1;go_enter func73,ntmps73;go_wp2_with fail;go_ret;refine ⟨_,[w.heap.size],rfl,⟨128,_,rfl,enters_of func128 (by kernel_rfl) rfl,by simp,fun B y hy hB hB2 v xs ho hl=>?_⟩,by simp,(Δ _ _).alloc (Θ _) _⟩;exact u641_on n H.out.1 H.out.2 w.heap.size B y (row_same R.out (hy w.heap.size (by simp))) hB2 v xs ho hl
theorem uv1_on(n:Int)(h0:0≤n)(h1:n<9223372036854775808)(g:Nat)(B:Nat)(y:World)(hg:Row y g #[.int .i64 n] 3)(hB:B≤y.heap.size)(v:Value)(xs:List Int)(ho:y.ownsRow B 5 1 v xs.length (xs.map (Value.int .u8)))(hl:xs.length+(uvB n.toNat).length≤1000000) :
  Calls prog 122 #[v,.pointer (some ⟨g,0,none⟩)] y (GivesAt B (xs++uvB n.toNat) y):=by
 have c0:=hg.c 0 (.int .i64 n);obtain ⟨s,rfl,rfl,hs,_,_⟩:=own_sl ho (by omega);have wn:IntKind.u64.wrap n=n:=by rw [show IntKind.u64.wrap n=n % 18446744073709551616 from rfl];omega
 obtain ⟨k,rfl⟩:=Int.eq_ofNat_of_zero_le h0;have HB:=Ξ hB;have K:=Ξ ((putuv_gen hs k (by omega) (by omega)));clear hg ho hl hB h0 h1 hs;unfold Sl.v at K ⊢;go_enter func122,ntmps122;go_wp2_with fail;refine K.out.mono ?_;intro e w' hp;have N:=Ξ (hp.at_ HB.out);obtain ⟨v',rfl,_⟩:=hp;go_wp2_with fail;go_ret;exact N.out
theorem uv_on(n:Int)(h0:0≤n)(h1:n<9223372036854775808)(w:World):Calls prog 70 #[.int .i64 n] w fun e w'=>∃ fv K,e=.returned fv∧Writes w' fv (uvB n.toNat) K∧(∀ b∈K,w.heap.size≤b)∧Below w.heap.size w w':=by have hmf:=hmf_;have R:=Ξ (Φ w #[.int .i64 n] 3);have H:=Ξ (Ψ h0 h1);clear h0 h1;go_enter func70,ntmps70;go_wp2_with fail;go_ret;refine ⟨_,[w.heap.size],rfl,⟨122,_,rfl,enters_of func122 (by kernel_rfl) rfl,by simp,fun B y hy hB hB2 v xs ho hl=>?_⟩,by simp,(Δ _ _).alloc (Θ _) _⟩;exact uv1_on n H.out.1 H.out.2 w.heap.size B y (row_same R.out (hy w.heap.size (by simp))) hB2 v xs ho hl
theorem text1_on{t:Sl}(g:Nat)(B:Nat)(y:World)(ht:SlRd .u8 y t)(hg:Row y g #[t.v] 30)(hB:B≤y.heap.size)(v:Value)(xs:List Int)(ho:y.ownsRow B 5 1 v xs.length (xs.map (Value.int .u8)))(hl:xs.length+(textB t.xs).length≤1000000) :
  Calls prog 127 #[v,.pointer (some ⟨g,0,none⟩)] y (GivesAt B (xs++textB t.xs) y):=by
 have c0:=hg.c 0 t.v;obtain ⟨s,rfl,rfl,hs,_,_⟩:=own_sl ho (by omega);have HB:=Ξ hB;have K:=Ξ (puttext_gen hs ht (by omega) ht.le);clear hg ho hl hB hs ht;unfold Sl.v at K c0 ⊢;go_enter func127,ntmps127;go_wp2_with fail;refine K.out.mono ?_;intro e w' hp;have N:=Ξ (hp.at_ HB.out);obtain ⟨v',rfl,_⟩:=hp;go_wp2_with fail;go_ret;exact N.out
theorem text_on{t:Sl}{w:World}(ht:SlRd .u8 w t):Calls prog 72 #[t.v] w fun e w'=>∃ fv K,e=.returned fv∧Writes w' fv (textB t.xs) K∧(∀ b∈K,w.heap.size≤b∨b∈t.kb)∧Below w.heap.size w w':=by
 have hmf:=hmf_;have R:=Ξ (Φ w #[t.v] 30);have H:=Ξ (ht.only ((Ω [] w).alloc (.cells #[t.v] 30)) (by simp));have H0:=Ξ ht;clear ht;unfold Sl.v at R H ⊢;go_enter func72,ntmps72;go_wp2_with fail;go_ret;refine ⟨_,w.heap.size :: t.kb,rfl,⟨127,_,rfl,enters_of func127 (by kernel_rfl) rfl,fun b hb=>?_,fun B y hy hB hB2 v xs ho hl=>?_⟩,fun b hb=>?_,(Δ _ _).alloc (Θ _) _⟩
 ·rcases List.mem_cons.1 hb with rfl|hb
  ·simp
  ·exact H.out.kb_lt b hb
 ·exact text1_on w.heap.size B y (H.out.kb_same fun b hb=>hy b (by simp [hb])) (row_same R.out (hy w.heap.size (by simp))) hB2 v xs ho hl
 ·rcases List.mem_cons.1 hb with rfl|hb
  ·exact .inl (Θ _)
  ·exact .inr hb
end Go.Proofs.YtcgmgdjeamidlaaGreat
