/- Texts of one proof, joined. -/
import Derived.Test.YtcgmgdjeamidlaaGreatSsB
import Derived.Shelf.Bytes.SlSmallAll
namespace Go.Proofs.YtcgmgdjeamidlaaGreat
set_option maxRecDepth 100000
set_option maxHeartbeats 16000000
open Go.RowKit Go.ChangeShapes Go.WideShapes Go.ChangeAt Go.Proofs.Tryz
set_option linter.unusedVariables false
set_option linter.unusedSimpArgs false
theorem sleq32{s t:Sl}{w:World}(hs:SlRd .i32 w s)(ht:SlRd .i32 w t):Calls prog 191 #[s.v,t.v] w fun e w'=>e=.returned (.bool (decide (s.xs=t.xs)))∧Below w.heap.size w w':=by
 obtain ⟨n,hn⟩:∃ n,s.xs.length=n:=⟨_,rfl⟩;obtain ⟨m,hm⟩:∃ m,t.xs.length=m:=⟨_,rfl⟩;have HN:=Ξ (Ψ hn hm);have HL:Hid (n≤1000000):=Ξ (by rw [←hn];exact hs.le);by_cases hnm:n=m
 ·subst hnm;have HS:=Ξ (Ψ hs ht);obtain ⟨a1,e1⟩:∃ a,s.a=a:=⟨_,rfl⟩;obtain ⟨a2,e2⟩:∃ a,t.a=a:=⟨_,rfl⟩;have HA:=Ξ (Ψ e1 e2);have nn:((n:Int) != (n:Int))=false:=by simp
  have nn':(n != n)=false:=by simp
  unfold Sl.v;rw [hn,hm,e1,e2];generalize s.c=c1;generalize t.c=c2;clear hs ht hn hm e1 e2;go_enter func191,ntmps191;go_wp2_with fail;go_loopw [13] (fun u wr=>∃ j:Nat,u=.int .i64 (j:Int)∧Hid (j≤n)∧Hid (s.xs.take j=t.xs.take j)∧Hid (Below w.heap.size w wr)) (fun u _=>n-(intOf u).toNat)
  case atStart=>exact ⟨0,rfl,Ξ (Nat.zero_le _),Ξ rfl,Ξ (Δ _ _)⟩
  case round=>
   obtain ⟨j,rfl,HJ,HT,HB⟩:=hrel;rename World=>w3;have ej:IntKind.i64.wrap ((j:Int)+1)=((j+1:Nat):Int):=IntWalk.i64_in _ (by have:=HJ.out;have:=HL.out;omega);by_cases hlt:j<n
   ·have d1:decide ((j:Int)<(n:Int))=true:=Γ (by omega);have d1':decide (j<n)=true:=Γ hlt;have j3:(j:Int)<(n:Int):=(by omega);have JL:=Ξ hlt;obtain ⟨x,hx⟩:∃ x,s.xs[j]? = some x:=⟨_,List.getElem?_eq_getElem (by have:=HN.out.1;omega)⟩;obtain ⟨y,hy⟩:∃ y,t.xs[j]? = some y:=⟨_,List.getElem?_eq_getElem (by have:=HN.out.2;omega)⟩;obtain ⟨b1,o1,ea1,hc1⟩:=((HS.out.1).only ((Ω [] w).below HB.out) (by simp)).at_ hx;obtain ⟨b2,o2,ea2,hc2⟩:=((HS.out.2).only ((Ω [] w).below HB.out) (by simp)).at_ hy;have c1':=hc1 j x hx;have c2':=hc2 j y hy;have EA:Hid (a1=some ⟨b1,o1,none⟩∧a2=some ⟨b2,o2,none⟩):=Ξ ⟨by rw [←HA.out.1,ea1],by rw [←HA.out.2,ea2]⟩;rw [EA.out.1,EA.out.2];have TS:Hid (s.xs.take (j+1)=s.xs.take j++[x]∧t.xs.take (j+1)=t.xs.take j++[y]):=Ξ (by
     have l1:j<s.xs.length:=by have:=HN.out.1;omega
     have l2:j<t.xs.length:=by have:=HN.out.2;omega
     rw [List.getElem?_eq_getElem l1,Option.some.injEq] at hx;rw [List.getElem?_eq_getElem l2,Option.some.injEq] at hy;exact ⟨by rw [List.take_succ_eq_append_getElem l1,hx],by rw [List.take_succ_eq_append_getElem l2,hy]⟩)
    have XY:Hid (s.xs[j]? = some x∧t.xs[j]? = some y):=Ξ ⟨hx,hy⟩;clear hx hy hc1 hc2 ea1 ea2 hlt;by_cases hxy:x=y
    ·have nx:(x != y)=false:=by simp [hxy]
     have E:Hid (s.xs.take (j+1)=t.xs.take (j+1)):=Ξ (by rw [TS.out.1,TS.out.2,HT.out,hxy]);clear hxy;go_wp2_with fail;go_region
     go_wp2_with fail;go_roundw;case rel=>exact ⟨j+1,by go_num,Ξ (by have:=JL.out;omega),E,Ξ (by first|exact HB.out.drew|exact HB.out)⟩
     case measure=>have:=JL.out;simp [intOf];omega
    ·have nx:(x != y)=true:=by simp [hxy]
     have E:Hid (decide (s.xs=t.xs)=false):=Ξ (by refine Λ fun e=>hxy ?_;have h:=XY.out;rw [e,h.2] at h;exact (Option.some.inj h.1).symm)
     clear hxy;go_wp2_with fail;go_region
     go_wp2_with fail;go_ret;exact ⟨by rw [E.out];rfl,by first|exact HB.out.drew|exact HB.out⟩
   ·have d1:decide ((j:Int)<(n:Int))=false:=Λ (by omega);have d1':decide (j<n)=false:=Λ hlt;have E:Hid (decide (s.xs=t.xs)=true):=Ξ (by
     have h:=HT.out;have hj:j=n:=by have:=HJ.out;omega
     rw [List.take_of_length_le (by have:=HN.out.1;omega),List.take_of_length_le (by have:=HN.out.2;omega)] at h;exact Γ h)
    clear hlt;go_wp2_with fail;go_ret;exact ⟨by rw [E.out];rfl,HB.out⟩
 ·have nn:((n:Int) != (m:Int))=true:=by simp;omega
  have nn':(n != m)=true:=by simp [hnm]
  have E:Hid (decide (s.xs=t.xs)=false):=Ξ (Λ fun e=>hnm (by rw [←hn,←hm,e]));unfold Sl.v;rw [hn,hm];clear hs ht hn hm hnm;go_enter func191,ntmps191;go_wp2_with fail;go_ret;exact ⟨by rw [E.out];rfl,Δ _ _⟩
theorem sleq64{s t:Sl}{w:World}(hs:SlRd .u64 w s)(ht:SlRd .u64 w t):Calls prog 198 #[s.v,t.v] w fun e w'=>e=.returned (.bool (decide (s.xs=t.xs)))∧Below w.heap.size w w':=by
 obtain ⟨n,hn⟩:∃ n,s.xs.length=n:=⟨_,rfl⟩;obtain ⟨m,hm⟩:∃ m,t.xs.length=m:=⟨_,rfl⟩;have HN:=Ξ (Ψ hn hm);have HL:Hid (n≤1000000):=Ξ (by rw [←hn];exact hs.le);by_cases hnm:n=m
 ·subst hnm;have HS:=Ξ (Ψ hs ht);obtain ⟨a1,e1⟩:∃ a,s.a=a:=⟨_,rfl⟩;obtain ⟨a2,e2⟩:∃ a,t.a=a:=⟨_,rfl⟩;have HA:=Ξ (Ψ e1 e2);have nn:((n:Int) != (n:Int))=false:=by simp
  have nn':(n != n)=false:=by simp
  unfold Sl.v;rw [hn,hm,e1,e2];generalize s.c=c1;generalize t.c=c2;clear hs ht hn hm e1 e2;go_enter func198,ntmps198;go_wp2_with fail;go_loopw [13] (fun u wr=>∃ j:Nat,u=.int .i64 (j:Int)∧Hid (j≤n)∧Hid (s.xs.take j=t.xs.take j)∧Hid (Below w.heap.size w wr)) (fun u _=>n-(intOf u).toNat)
  case atStart=>exact ⟨0,rfl,Ξ (Nat.zero_le _),Ξ rfl,Ξ (Δ _ _)⟩
  case round=>
   obtain ⟨j,rfl,HJ,HT,HB⟩:=hrel;rename World=>w3;have ej:IntKind.i64.wrap ((j:Int)+1)=((j+1:Nat):Int):=IntWalk.i64_in _ (by have:=HJ.out;have:=HL.out;omega);by_cases hlt:j<n
   ·have d1:decide ((j:Int)<(n:Int))=true:=Γ (by omega);have d1':decide (j<n)=true:=Γ hlt;have j3:(j:Int)<(n:Int):=(by omega);have JL:=Ξ hlt;obtain ⟨x,hx⟩:∃ x,s.xs[j]? = some x:=⟨_,List.getElem?_eq_getElem (by have:=HN.out.1;omega)⟩;obtain ⟨y,hy⟩:∃ y,t.xs[j]? = some y:=⟨_,List.getElem?_eq_getElem (by have:=HN.out.2;omega)⟩;obtain ⟨b1,o1,ea1,hc1⟩:=((HS.out.1).only ((Ω [] w).below HB.out) (by simp)).at_ hx;obtain ⟨b2,o2,ea2,hc2⟩:=((HS.out.2).only ((Ω [] w).below HB.out) (by simp)).at_ hy;have c1':=hc1 j x hx;have c2':=hc2 j y hy;have EA:Hid (a1=some ⟨b1,o1,none⟩∧a2=some ⟨b2,o2,none⟩):=Ξ ⟨by rw [←HA.out.1,ea1],by rw [←HA.out.2,ea2]⟩;rw [EA.out.1,EA.out.2];have TS:Hid (s.xs.take (j+1)=s.xs.take j++[x]∧t.xs.take (j+1)=t.xs.take j++[y]):=Ξ (by
     have l1:j<s.xs.length:=by have:=HN.out.1;omega
     have l2:j<t.xs.length:=by have:=HN.out.2;omega
     rw [List.getElem?_eq_getElem l1,Option.some.injEq] at hx;rw [List.getElem?_eq_getElem l2,Option.some.injEq] at hy;exact ⟨by rw [List.take_succ_eq_append_getElem l1,hx],by rw [List.take_succ_eq_append_getElem l2,hy]⟩)
    have XY:Hid (s.xs[j]? = some x∧t.xs[j]? = some y):=Ξ ⟨hx,hy⟩;clear hx hy hc1 hc2 ea1 ea2 hlt;by_cases hxy:x=y
    ·have nx:(x != y)=false:=by simp [hxy]
     have E:Hid (s.xs.take (j+1)=t.xs.take (j+1)):=Ξ (by rw [TS.out.1,TS.out.2,HT.out,hxy]);clear hxy;go_wp2_with fail;go_region
     go_wp2_with fail;go_roundw;case rel=>exact ⟨j+1,by go_num,Ξ (by have:=JL.out;omega),E,Ξ (by first|exact HB.out.drew|exact HB.out)⟩
     case measure=>have:=JL.out;simp [intOf];omega
    ·have nx:(x != y)=true:=by simp [hxy]
     have E:Hid (decide (s.xs=t.xs)=false):=Ξ (by refine Λ fun e=>hxy ?_;have h:=XY.out;rw [e,h.2] at h;exact (Option.some.inj h.1).symm)
     clear hxy;go_wp2_with fail;go_region
     go_wp2_with fail;go_ret;exact ⟨by rw [E.out];rfl,by first|exact HB.out.drew|exact HB.out⟩
   ·have d1:decide ((j:Int)<(n:Int))=false:=Λ (by omega);have d1':decide (j<n)=false:=Λ hlt;have E:Hid (decide (s.xs=t.xs)=true):=Ξ (by
     have h:=HT.out;have hj:j=n:=by have:=HJ.out;omega
     rw [List.take_of_length_le (by have:=HN.out.1;omega),List.take_of_length_le (by have:=HN.out.2;omega)] at h;exact Γ h)
    clear hlt;go_wp2_with fail;go_ret;exact ⟨by rw [E.out];rfl,HB.out⟩
 ·have nn:((n:Int) != (m:Int))=true:=by simp;omega
  have nn':(n != m)=true:=by simp [hnm]
  have E:Hid (decide (s.xs=t.xs)=false):=Ξ (Λ fun e=>hnm (by rw [←hn,←hm,e]));unfold Sl.v;rw [hn,hm];clear hs ht hn hm hnm;go_enter func198,ntmps198;go_wp2_with fail;go_ret;exact ⟨by rw [E.out];rfl,Δ _ _⟩
theorem conv_ints{w:World}{v:Value}{xs:List Int}(h:Ints .u8 w v xs):(convert 30 9 v).run prog w=.ok (.string (strOfNums xs)) w:=by
 rcases h with ⟨rfl,a,c,rfl⟩|⟨b,off,cap,rfl,hc⟩
 ·exact run_convert_bytes_zero w 30 5 underlying30 underlying5 a c 9 underlying9
 ·exact run_convert_bytes_arg w 30 5 underlying30 underlying5 b off xs.length cap xs rfl (fun i hi=>by rw [hc i hi,List.getD_eq_getElem?_getD]) 9 underlying9
theorem strOf_inj{xs ys:List Int}(hx:IsBy xs)(hy:IsBy ys)(h:strOfNums xs=strOfNums ys):xs=ys:=by
 have h1:=congrArg (fun b=>b.data.toList) h;simp only [strOfNums_data] at h1;have key:∀ (l:List Int),IsBy l→(l.map fun n=>UInt8.ofNat n.toNat).map (fun u=>(u.toNat:Int))=l:=fun l hl=>by
  rw [List.map_map];conv=>rhs;rw [←List.map_id l]
  refine List.map_congr_left fun z hz=>?_;have:=hl z hz;simp [UInt8.toNat_ofNat'];omega
 rw [←key xs hx,←key ys hy,h1]
theorem byeq{s t:Sl}{w:World}(hs:SlRd .u8 w s)(ht:SlRd .u8 w t)(h1:IsBy s.xs)(h2:IsBy t.xs):Calls prog 109 #[s.v,t.v] w fun e w'=>e=.returned (.bool (decide (s.xs=t.xs)))∧Below w.heap.size w w':=by
 have g1:∀ y:World,Below w.heap.size w y→(convert 30 9 s.v).run prog y=.ok (.string (strOfNums s.xs)) y:=fun y hy=>conv_ints (hs.only ((Ω [] w).below hy) (by simp)).ints;have g2:∀ y:World,Below w.heap.size w y→(convert 30 9 t.v).run prog y=.ok (.string (strOfNums t.xs)) y:=fun y hy=>conv_ints (ht.only ((Ω [] w).below hy) (by simp)).ints;have g3:=g1 w (Δ _ _);have g4:=g2 w (Δ _ _);unfold Sl.v at g3 g4 ⊢;by_cases he:s.xs=t.xs
 ·have E:=Ξ (Γ he);rw [he] at g3;rw [E.out];clear g1 g2 hs ht h1 h2;rw [he];clear he;generalize strOfNums t.xs=z at *;generalize t.xs.length=n at *;go_enter func109,ntmps109;go_wp2_with fail;go_ret;exact ⟨rfl,Δ _ _⟩
 ·have E:=Ξ (Λ he);have hne:strOfNums s.xs≠strOfNums t.xs:=fun h=>he (strOf_inj h1 h2 h);have z2:((strOfNums s.xs).toList == (strOfNums t.xs).toList)=false:=by rw [ByteArray.toList_eq,ByteArray.toList_eq];refine beq_eq_false_iff_ne.2 fun h=>hne ?_;exact congrArg (fun l=>ByteArray.mk (List.toArray l)) h
  rw [E.out];clear g1 g2 hs ht h1 h2 he E;generalize strOfNums s.xs=a at *;generalize strOfNums t.xs=b at *;go_enter func109,ntmps109;go_wp2_with fail;go_ret;exact ⟨rfl,Δ _ _⟩
structure Rc3 where
 key:Int
 vec:Sl
 tag:Sl
def Rc3.v(x:Rc3):Value:=.agg #[.int .u64 x.key,x.vec.v,x.tag.v]
def Rc3.c(x:Rc3):Int×List Int×List Int:=(x.key,x.vec.xs,x.tag.xs)
structure Rc3.At(w:World)(x:Rc3):Prop where
 vec:SlRd .i32 w x.vec
 tag:SlRd .u8 w x.tag
 by_:IsBy x.tag.xs
theorem Rc3.At.below{w w':World}{x:Rc3}(h:x.At w)(k:Below w.heap.size w w'):x.At w':=⟨h.vec.only ((Ω [] w).below k) (by simp),h.tag.only ((Ω [] w).below k) (by simp),h.by_⟩
theorem itsame{x y:Rc3}{w:World}(hx:x.At w)(hy:y.At w):Calls prog 177 #[x.v,y.v] w fun e w'=>e=.returned (.bool (decide (x.c=y.c)))∧Below w.heap.size w w':=by
 have SV:=Ξ fun (z:World) (hz:Below w.heap.size w z)=>sleq32 (hx.below hz).vec (hy.below hz).vec;have SB:=Ξ fun (z:World) (hz:Below w.heap.size w z)=>byeq (hx.below hz).tag (hy.below hz).tag hx.by_ hy.by_;have EC:Hid (decide (x.c=y.c)=(decide (x.key=y.key) && (decide (x.vec.xs=y.vec.xs) && decide (x.tag.xs=y.tag.xs)))):=Ξ (by unfold Rc3.c;by_cases h1:x.key=y.key<;>by_cases h2:x.vec.xs=y.vec.xs<;>by_cases h3:x.tag.xs=y.tag.xs<;>simp [h1,h2,h3])
 have B0:∀ a b,Below w.heap.size w ((w.alloc a).alloc b):=fun a b=>((Δ _ w).alloc (Θ _) _).alloc (by simp) _;have BB:=Ξ B0;clear hx hy B0;rw [EC.out];by_cases h1:x.key=y.key
 ·have k1:(x.key == y.key)=true:=by simp [h1]
  have k2:=Ξ (Γ h1);rw [k2.out];clear h1 EC;generalize decide (x.vec.xs=y.vec.xs)=b1 at *;generalize decide (x.tag.xs=y.tag.xs)=b2 at *;unfold Rc3.v Sl.v;unfold Sl.v at SV SB;go_enter func177,ntmps177;go_wp2_with fail;have RA:Hid (Row ((w.alloc (.cells #[.int .u64 x.key,.slice x.vec.a x.vec.xs.length x.vec.c,.slice x.tag.a x.tag.xs.length x.tag.c] tIt)).alloc (.cells #[.int .u64 y.key,.slice y.vec.a y.vec.xs.length y.vec.c,.slice y.tag.a y.tag.xs.length y.tag.c] tIt)) w.heap.size #[.int .u64 x.key,.slice x.vec.a x.vec.xs.length x.vec.c,.slice x.tag.a x.tag.xs.length x.tag.c] tIt):=Ξ ((Φ w _ _).only ((Ω [] _).alloc _) (by simp));have RB:Hid (Row ((w.alloc (.cells #[.int .u64 x.key,.slice x.vec.a x.vec.xs.length x.vec.c,.slice x.tag.a x.tag.xs.length x.tag.c] tIt)).alloc (.cells #[.int .u64 y.key,.slice y.vec.a y.vec.xs.length y.vec.c,.slice y.tag.a y.tag.xs.length y.tag.c] tIt)) (w.heap.size+1) #[.int .u64 y.key,.slice y.vec.a y.vec.xs.length y.vec.c,.slice y.tag.a y.tag.xs.length y.tag.c] tIt):=Ξ (by
   have h:=Φ (w.alloc (.cells #[.int .u64 x.key,.slice x.vec.a x.vec.xs.length x.vec.c,.slice x.tag.a x.tag.xs.length x.tag.c] tIt)) #[.int .u64 y.key,.slice y.vec.a y.vec.xs.length y.vec.c,.slice y.tag.a y.tag.xs.length y.tag.c] tIt
   rwa [World.size_alloc] at h)
  have BW:=Ξ (BB.out (.cells #[.int .u64 x.key,.slice x.vec.a x.vec.xs.length x.vec.c,.slice x.tag.a x.tag.xs.length x.tag.c] tIt) (.cells #[.int .u64 y.key,.slice y.vec.a y.vec.xs.length y.vec.c,.slice y.tag.a y.tag.xs.length y.tag.c] tIt));refine (SV.out _ BW.out).mono ?_;generalize (w.alloc (.cells #[.int .u64 x.key,.slice x.vec.a x.vec.xs.length x.vec.c,.slice x.tag.a x.tag.xs.length x.tag.c] tIt)).alloc (.cells #[.int .u64 y.key,.slice y.vec.a y.vec.xs.length y.vec.c,.slice y.tag.a y.tag.xs.length y.tag.c] tIt)=w1 at *;rintro _ w2 ⟨rfl,hb2⟩;have B2:=Ξ (BW.out.trans (hb2.mono BW.out.size));have l2:=(RA.out.only ((Ω [] w1).below hb2) (by simp)).c 2 (.slice x.tag.a x.tag.xs.length x.tag.c);have r2:=(RB.out.only ((Ω [] w1).below hb2) (by simp)).c 2 (.slice y.tag.a y.tag.xs.length y.tag.c);clear hb2 SV BB RA RB BW;cases b1 with
  | false=>
   clear SB;go_wp2_with fail;go_ret;exact ⟨rfl,B2.out⟩
  | true=>
   go_wp2_with fail;refine (SB.out w2 B2.out).mono ?_;rintro _ w3 ⟨rfl,hb3⟩;have B3:=Ξ (B2.out.trans (hb3.mono B2.out.size));clear hb3 SB;cases b2<;>(go_wp2_with fail;go_ret;exact ⟨rfl,B3.out⟩)
 ·have k1:(x.key == y.key)=false:=by simp [h1]
  have k2:=Ξ (Λ h1);rw [k2.out];clear h1 EC SV SB;unfold Rc3.v Sl.v;go_enter func177,ntmps177;go_wp2_with fail;go_ret;exact ⟨rfl,BB.out _ _⟩
abbrev tRq:TypeId:=50
structure Rq where
 kind:Int
 it:Rc3
 key:Int
 hi:Int
 n:Int
 q:Sl
 fl:Sl
 scale:Int
def Rq.cells(x:Rq):Array Value:=#[.int .i64 x.kind,.int .u64 x.it.key,x.it.vec.v,x.it.tag.v,.int .u64 x.key,.int .u64 x.hi,.int .i64 x.n,x.q.v,x.fl.v,.int .i64 x.scale]
abbrev Rq.lit(x:Rq):Array Value:=#[.int .i64 x.kind,.int .u64 x.it.key,.slice x.it.vec.a x.it.vec.xs.length x.it.vec.c,.slice x.it.tag.a x.it.tag.xs.length x.it.tag.c,.int .u64 x.key,.int .u64 x.hi,.int .i64 x.n,.slice x.q.a x.q.xs.length x.q.c,.slice x.fl.a x.fl.xs.length x.fl.c,.int .i64 x.scale]
def Rq.alike(x y:Rq):Bool:=decide (x.kind=y.kind) && (decide (x.it.c=y.it.c) && (decide (x.key=y.key) && (decide (x.hi=y.hi) && (decide (x.n=y.n) && (decide (x.scale=y.scale) && (decide (x.q.xs=y.q.xs) && decide (x.fl.xs=y.fl.xs)))))))
structure Rq.At(w:World)(x:Rq):Prop where
 it:x.it.At w
 q:SlRd .i32 w x.q
 fl:SlRd .u64 w x.fl
theorem Rq.At.below{w w':World}{x:Rq}(h:x.At w)(k:Below w.heap.size w w'):x.At w':=⟨h.it.below k,h.q.only ((Ω [] w).below k) (by simp),h.fl.only ((Ω [] w).below k) (by simp)⟩
theorem same_on{x y:Rq}{w:World}(hx:x.At w)(hy:y.At w):Calls prog 193 #[.agg x.cells,.agg y.cells] w fun e w'=>e=.returned (.bool (x.alike y))∧Below w.heap.size w w':=by
 have SI:=Ξ fun (z:World) (hz:Below w.heap.size w z)=>itsame (hx.below hz).it (hy.below hz).it;have SQ:=Ξ fun (z:World) (hz:Below w.heap.size w z)=>sleq32 (hx.below hz).q (hy.below hz).q;have SF:=Ξ fun (z:World) (hz:Below w.heap.size w z)=>sleq64 (hx.below hz).fl (hy.below hz).fl;have EC:Hid (x.alike y=(decide (x.kind=y.kind) && (decide (x.it.c=y.it.c) && (decide (x.key=y.key) && (decide (x.hi=y.hi) && (decide (x.n=y.n) && (decide (x.scale=y.scale) && (decide (x.q.xs=y.q.xs) && decide (x.fl.xs=y.fl.xs))))))))):=Ξ rfl;have B0:∀ a b,Below w.heap.size w ((w.alloc a).alloc b):=fun a b=>((Δ _ w).alloc (Θ _) _).alloc (by simp) _;have BB:=Ξ B0;clear hx hy B0;rw [EC.out];clear EC;generalize decide (x.it.c=y.it.c)=b1 at *;have Kb4:Hid ((x.key == y.key)=decide (x.key=y.key)):=Ξ (Bool.eq_iff_iff.2 (by simp));generalize decide (x.key=y.key)=b4 at *;have Kb5:Hid ((x.hi == y.hi)=decide (x.hi=y.hi)):=Ξ (Bool.eq_iff_iff.2 (by simp));generalize decide (x.hi=y.hi)=b5 at *;have Kb6:Hid ((x.n == y.n)=decide (x.n=y.n)):=Ξ (Bool.eq_iff_iff.2 (by simp));generalize decide (x.n=y.n)=b6 at *;have Kb7:Hid ((x.scale == y.scale)=decide (x.scale=y.scale)):=Ξ (Bool.eq_iff_iff.2 (by simp));generalize decide (x.scale=y.scale)=b7 at *;generalize decide (x.q.xs=y.q.xs)=b2 at *;generalize decide (x.fl.xs=y.fl.xs)=b3 at *;unfold Rq.cells Sl.v;unfold Rc3.v Sl.v at SI;unfold Sl.v at SQ SF;by_cases h:x.kind=y.kind
 ·have k_kind:(x.kind == y.kind)=true:=by simp [h]
  rw [show decide (x.kind=y.kind)=true from Γ h];clear h;go_enter func193,ntmps193;go_wp2_with fail;have RA:=Ξ ((Φ w x.lit tRq).only ((Ω [] _).alloc (.cells y.lit tRq)) (by simp));have RB:Hid (Row ((w.alloc (.cells x.lit tRq)).alloc (.cells y.lit tRq)) (w.heap.size+1) y.lit tRq):=Ξ (by
   have h:=Φ (w.alloc (.cells x.lit tRq)) y.lit tRq
   rwa [World.size_alloc] at h)
  have BW:=Ξ (BB.out (.cells x.lit tRq) (.cells y.lit tRq));refine (SI.out _ BW.out).mono ?_;generalize (w.alloc (.cells x.lit tRq)).alloc (.cells y.lit tRq)=w1 at *;rintro _ w2 ⟨rfl,hb2⟩;have B2:Hid (Below w.heap.size w w2):=Ξ (BW.out.trans (hb2.mono BW.out.size));have RA2:=Ξ (RA.out.only ((Ω [] w1).below hb2) (by simp));have RB2:=Ξ (RB.out.only ((Ω [] w1).below hb2) (by simp));have l4:=RA2.out.c 4 (.int .u64 x.key);have l5:=RA2.out.c 5 (.int .u64 x.hi);have l6:=RA2.out.c 6 (.int .i64 x.n);have l7:=RA2.out.c 7 (.slice x.q.a x.q.xs.length x.q.c);have l9:=RA2.out.c 9 (.int .i64 x.scale);have r4:=RB2.out.c 4 (.int .u64 y.key);have r5:=RB2.out.c 5 (.int .u64 y.hi);have r6:=RB2.out.c 6 (.int .i64 y.n);have r7:=RB2.out.c 7 (.slice y.q.a y.q.xs.length y.q.c);have r9:=RB2.out.c 9 (.int .i64 y.scale);clear hb2 SI BB RA RB BW;cases b1 with
  | false=>
   go_wp2_with fail;go_ret;exact ⟨rfl,B2.out⟩
  | true=>
   cases b4 with
   | false=>
    have k_key:=Kb4.out;go_wp2_with fail;go_ret;exact ⟨rfl,B2.out⟩
   | true=>
    have k_key:=Kb4.out;cases b5 with
    | false=>
     have k_hi:=Kb5.out;go_wp2_with fail;go_ret;exact ⟨rfl,B2.out⟩
    | true=>
     have k_hi:=Kb5.out;cases b6 with
     | false=>
      have k_n:=Kb6.out;go_wp2_with fail;go_ret;exact ⟨rfl,B2.out⟩
     | true=>
      have k_n:=Kb6.out;cases b7 with
      | false=>
       have k_scale:=Kb7.out;go_wp2_with fail;go_ret;exact ⟨rfl,B2.out⟩
      | true=>
       have k_scale:=Kb7.out;go_wp2_with fail;refine (SQ.out w2 B2.out).mono ?_;rintro _ w3 ⟨rfl,hb3⟩;have B3:Hid (Below w.heap.size w w3):=Ξ (B2.out.trans (hb3.mono B2.out.size));have l8:=(RA2.out.only ((Ω [] w2).below hb3) (by simp)).c 8 (.slice x.fl.a x.fl.xs.length x.fl.c);have r8:=(RB2.out.only ((Ω [] w2).below hb3) (by simp)).c 8 (.slice y.fl.a y.fl.xs.length y.fl.c);clear hb3 SQ;cases b2 with
       | false=>
        go_wp2_with fail;go_ret;exact ⟨rfl,B3.out⟩
       | true=>
        go_wp2_with fail;refine (SF.out w3 B3.out).mono ?_;rintro _ w4 ⟨rfl,hb4⟩;have B4:Hid (Below w.heap.size w w4):=Ξ (B3.out.trans (hb4.mono B3.out.size));clear hb4 SF;cases b3;all_goals
         go_wp2_with fail;go_ret;exact ⟨rfl,B4.out⟩
 ·have k_kind:(x.kind == y.kind)=false:=by simp [h]
  rw [show decide (x.kind=y.kind)=false from Λ h];clear h;go_enter func193,ntmps193;go_wp2_with fail;go_ret;exact ⟨rfl,BB.out _ _⟩
theorem SlRd.no(q:IntKind)(w:World):SlRd q w Sl.no:=(SlAt.no q w).rd
def Rc3.no:Rc3:=⟨0,Sl.no,Sl.no⟩
def Rq.bare(k:Int):Rq:=⟨k,Rc3.no,0,0,0,Sl.no,Sl.no,0⟩
theorem Rq.bare_at(k:Int)(w:World):(Rq.bare k).At w:=⟨⟨SlRd.no _ _,SlRd.no _ _,by simp [Rq.bare,Rc3.no,Sl.no,IsBy]⟩,SlRd.no _ _,SlRd.no _ _⟩
abbrev bareCells(k:Int):Array Value:=#[.int .i64 k,.int .u64 0,.slice none 0 0,.slice none 0 0,.int .u64 0,.int .u64 0,.int .i64 0,.slice none 0 0,.slice none 0 0,.int .i64 0]
theorem Rq.bare_cells(k:Int):(Rq.bare k).cells=bareCells k:=rfl
theorem same_bare(k:Int)(w:World):Calls prog 193 #[.agg (bareCells k),.agg (bareCells k)] w fun e w'=>e=.returned (.bool true)∧Below w.heap.size w w':=by have h:=same_on (Rq.bare_at k w) (Rq.bare_at k w);rw [Rq.bare_cells,show (Rq.bare k).alike (Rq.bare k)=true by simp [Rq.alike]] at h;exact h
theorem mayask_bare(k:Int)(hk:k=1∨k=7∨k=8∨k=9)(w:World):Calls prog 183 #[.agg (bareCells k)] w fun e w'=>e=.returned (.bool true)∧Below w.heap.size w w':=by
 have SB:=Ξ (same_bare k);have R0:=Ξ (Φ w (bareCells k) tRq);have W1:Hid (Below w.heap.size w ((w.alloc (.cells (bareCells k) tRq)).alloc (.cells (bareCells k) tRq))):=Ξ (((Δ _ w).alloc (Θ _) _).alloc (by simp) _);have RA:Hid (Row ((w.alloc (.cells (bareCells k) tRq)).alloc (.cells (bareCells k) tRq)) w.heap.size (bareCells k) tRq):=Ξ (R0.out.only ((Ω [] _).alloc _) (by simp));clear R0;unfold bareCells at *;rcases hk with rfl|rfl|rfl|rfl;all_goals
  go_enter func183,ntmps183;go_wp2_with fail;refine (SB.out _).mono ?_;rintro _ w2 ⟨rfl,hb2⟩;have R2:=RA.out.only ((Ω [] _).below hb2) (by simp);have B2:=Ξ (W1.out.trans (hb2.mono W1.out.size));have l6:=R2.c 6 (.int .i64 0);have l7:=R2.c 7 (.slice none 0 0);have l8:=R2.c 8 (.slice none 0 0);have l9:=R2.c 9 (.int .i64 0);clear hb2 R2 SB RA W1;go_wp2_with fail;go_ret;exact ⟨rfl,B2.out⟩
def AskTo(zs:List Int)(w:World)(e:Ending)(w':World):Prop:=∃ v,e=.returned (.tuple #[v,.int .i64 0])∧w'.ownsRow w.heap.size 5 1 v zs.length (zs.map (Value.int .u8))∧Below w.heap.size w w'
theorem all_one{fv:Value}{x:Int}{g:Nat}{W:World}{K:List Nat}(hw:Writes W fv [x] K)(hg:Row W g #[fv] 154):Calls prog 74 #[.slice (some ⟨g,0,none⟩) 1 1] W (Gives [x] W):=by
 have h:=all_on g 0 1 1 [(fv,[x])] W rfl (fun j p hp=>by
  cases j with
  | succ j=>simp at hp
  | zero=>
   simp at hp;subst hp;exact ⟨hg.cell 0,K,hw⟩) (fun k=>by cases k<;>simp) (by omega)
 exact h
theorem ask_bare(k:Int)(hk:k=1∨k=7∨k=8∨k=9)(w:World):Calls prog 140 #[.agg (bareCells k)] w (AskTo [k] w):=by
 have MA:=Ξ fun y=>mayask_bare k hk y;have U8:=Ξ fun y=>u8_on k (by omega) (by omega) y;have R0:=Ξ (Φ w (bareCells k) tRq);have W0:Hid (Below w.heap.size w (w.alloc (.cells (bareCells k) tRq))):=Ξ ((Δ _ w).alloc (Θ _) _);unfold bareCells at *;rcases hk with rfl|rfl|rfl|rfl;all_goals
  go_enter func140,ntmps140;go_wp2_with fail;refine (MA.out _).mono ?_;rintro _ w2 ⟨rfl,hb2⟩;have R2:=Ξ (R0.out.only ((Ω [] _).below hb2) (by simp));have B2:=Ξ (W0.out.trans (hb2.mono W0.out.size));have l0:=R2.out.cell 0;simp only [List.getElem?_toArray,List.getElem?_cons_zero] at l0;clear hb2 MA R0 W0;go_wp2_with fail;refine (U8.out _).mono ?_;rintro _ w3 ⟨fv,K,rfl,hw,_,hb3⟩;obtain ⟨f,cap,rfl⟩:∃ f cap,fv=.func (.func f) #[] cap:=by obtain ⟨f,cap,e,_⟩:=hw;exact ⟨f,cap,e⟩
  have R3:=Ξ (R2.out.only ((Ω [] _).below hb3) (by simp));have B3:=Ξ (B2.out.trans (hb3.mono B2.out.size));have WR:=Ξ hw;have l3:=R3.out.cell 0;simp only [List.getElem?_toArray,List.getElem?_cons_zero] at l3;have R4:Hid (Row (w3.alloc (.cells #[.func (.func f) #[] cap] 154)) w.heap.size _ tRq):=Ξ (R3.out.only ((Ω [] _).alloc _) (by simp));have l4:=R4.out.cell 0;simp only [List.getElem?_toArray,List.getElem?_cons_zero] at l4;have AL:=Ξ (all_one (hw.below ((Δ _ _).alloc (Θ _) _)) (Φ w3 #[.func (.func f) #[] cap] 154));have B4:Hid (Below w.heap.size w (w3.alloc (.cells #[.func (.func f) #[] cap] 154))):=Ξ (B3.out.alloc B3.out.size _);unfold Gives at AL;clear hb3 hw U8;go_wp2_with fail;refine AL.out.mono ?_;rintro _ w5 ⟨v,rfl,ho,hb5⟩;have N5:Hid (w5.ownsRow w.heap.size 5 1 v 1 _∧Below w.heap.size w w5):=Ξ ⟨own_mono ho B4.out.size,B4.out.trans (hb5.mono B4.out.size)⟩;clear ho hb5 AL;go_wp2_with fail;go_ret2;exact ⟨v,rfl,N5.out.1,N5.out.2⟩
abbrev tRd:TypeId:=239
structure RdrAt(w:World)(r:Nat)(xs:List Int)(e:Int):Prop where
 at_:∃ s:Sl,s.xs=xs∧Row w r #[s.v,.int .i64 e] tRd∧SlRd .u8 w s∧(xs≠[]→∀ b∈s.bs,b<r)∧xs.length≤s.c
theorem RdrAt.only{w w':World}{r:Nat}{xs:List Int}{e:Int}{G:List Nat}(h:RdrAt w r xs e)(k:Only G w w')(hG:∀ b∈G,b<w.heap.size→False):RdrAt w' r xs e:=by obtain ⟨s,e1,h1,h2,h3,h4⟩:=h.at_;refine ⟨s,e1,h1.only k fun hm=>hG _ hm h1.lt,h2.only k fun he b hb hm=>hG b hm (h2.lt he b hb),h3,h4⟩
theorem RdrAt.behind{w w':World}{r:Nat}{xs:List Int}{e:Int}{G:List Nat}(h:RdrAt w r xs e)(k:Only G w w')(hG:∀ b∈G,r<b):RdrAt w' r xs e:=by obtain ⟨s,e1,h1,h2,h3,h4⟩:=h.at_;exact ⟨s,e1,h1.only k fun hm=>by have:=hG _ hm;omega,h2.only k fun he b hb hm=>by have h6:=hG b hm;have h7:=h3 (by rw [←e1];exact he) b hb;omega,h3,h4⟩
theorem RdrAt.below{w w':World}{r:Nat}{xs:List Int}{e:Int}(h:RdrAt w r xs e)(k:Below w.heap.size w w'):RdrAt w' r xs e:=h.only ((Ω [] w).below k) (by simp)
theorem err_on(r:Nat)(v:Value)(e:Int)(w:World)(h:Row w r #[v,.int .i64 e] tRd):Calls prog 172 #[.pointer (some ⟨r,0,none⟩)] w fun z w'=>z=.returned (.int .i64 e)∧w'=w:=by have c1:=h.c 1 (.int .i64 e);clear h;go_enter func172,ntmps172;go_wp2_with fail;go_ret;exact ⟨rfl,rfl⟩
theorem wpList_insert_at{P:Program}(w:World){ops:Array Oper}{rest:List Oper}{o:Oper}{a:Act}{Q:Exit→Act→World→Prop}(hg:o.guard=none)(m x v:Operand)(t:TypeId)(hop:o.op=Op.insert t m x v)(kt et:TypeId)(q:IntKind)(ht:P.underlying t=some (.map kt et))(hk:P.underlying kt=some (.int q))
  (b:Nat) (L:List (Int×Value)) (hm:a.eval m=.map (some b)) (hown:MapAt w b q L) (key:Int) (val:Value) (hx:a.eval x=.int q key) (hv:a.eval v=val)
  (hK:∀ w',MapAt w' b q (up key val L)→Only [b] w w'→w'.heap.size=w.heap.size→wpList P ops Q rest (a.put o.dst undef) w'):wpList P ops Q (o :: rest) a w:=by
 refine wpList_plain hg fun K' hK'=>?_;obtain ⟨es,clock,hb,hs,hL⟩:=hown;have hrun:=run_update (P:=P) hb hL ht hk key val;unfold Oper.wp;simp [execOp,hop,hm,hx,hv,hrun,Result.andThen];exact hK' _ _ (hK _ (MapAt.set hb hs hL key val) setBlock_only turned_only.2)
theorem clone_gives{s:Sl}{w:World}(h:SlRd .u8 w s):Calls prog 168 #[s.v] w (Gives s.xs w):=by
 cases ha:s.a with
 | none=>
  obtain ⟨e1,e2⟩:=h.nn ha;have es:s.v=.slice none 0 0:=by simp [Sl.v,ha,e1,e2]
  have ex:=Ξ e1;rw [es];clear h e1 e2 es ha;have qT:∀ w:World,(binOp .eql 30 (.slice none 0 0) (.slice none 0 0)).run prog w=.ok (.bool true) w:=fun w=>by kernel_rfl
  go_enter func168,ntmps168;go_wp2_with fail;go_ret;refine ⟨_,rfl,?_,Δ _ _⟩;rw [ex.out];exact World.ownsRow_nil _ _ _ _
 | some ad=>
  have hs:=Ξ h.src;have hle:=Ξ h.le;have es:s.v=.slice (some ad) s.xs.length s.c:=by simp [Sl.v,ha]
  rw [es] at hs ⊢;clear h es ha;obtain ⟨i0,hi,hz0,hz1,hz2⟩:=info_parts infoU8;generalize s.xs=xs at *;generalize s.c=c at *;obtain ⟨m,hm⟩:∃ m,xs.length=m:=⟨_,rfl⟩;have HM:=Ξ hm;rw [hm] at hs hle ⊢;clear hm;have qT:∀ w:World,(binOp .eql 30 (.slice (some ad) m c) (.slice none 0 0)).run prog w=.ok (.bool false) w:=fun w=>by kernel_rfl
  have EM:Hid (World.ownsRow (w.alloc (.cells #[] 5)) w.heap.size 5 1 (.slice (some ⟨w.heap.size,0,none⟩) 0 0) 0 []):=Ξ (World.ownsRow_lit w #[] 0 (Θ _) (by simp) rfl);go_enter func168,ntmps168;go_wp2_with (at_builtin;refine wpList_append_src rfl (.tmp 5) (.tmp 6) 30 rfl w.heap.size 5 i0 (.int .u8 0) 1 1 underlying30 hi hz0 hz1 hz2 rfl (by decide) _ 0 [] rfl EM.out _ m (xs.map (Value.int .u8)) rfl (hs.out.below ((Δ _ _).alloc (Θ _) _)) (by simp [Value.oneCell']) (by have:=hle.out;unfold maxLen;omega) (by have:=hle.out;omega) (by simp) ?_;intro v' w' hown' hgrow);go_ret;rw [Nat.zero_add,List.nil_append] at hown';exact ⟨_,rfl,by rw [HM.out];exact hown',((Δ _ _).alloc (Θ _) _).grown hgrow (by simp) (fun k hk=>by simp [Act.eval,Value.ownBlock] at hk;omega)⟩
theorem own_sl{w:World}{B:Nat}{v:Value}{xs:List Int}(h:w.ownsRow B 5 1 v xs.length (xs.map (Value.int .u8)))(hn:xs.length≤1000000):∃ s:Sl,v=s.v∧s.xs=xs∧SlRd .u8 w s∧(∀ b∈s.bs,B≤b∧b<w.heap.size)∧xs.length≤s.c:=by
 obtain ⟨s,e1,e2,h3,h4⟩:=SlAt.of_own h hn;refine ⟨s,e1,e2,h3.rd,fun b hb=>⟨h4 b hb,h3.lt b hb⟩,?_⟩;rcases h.2 with ⟨rfl,h0⟩|⟨g,cap,cur,rfl,_,_,hc,_⟩
 ·omega
 ·unfold Sl.v at e1;simp only [Value.slice.injEq] at e1;omega
def NewRdTo(xs:List Int)(w:World)(e:Ending)(w':World):Prop:=∃ r,e=.returned (.pointer (some ⟨r,0,none⟩))∧RdrAt w' r xs 0∧Below w.heap.size w w'∧w.heap.size≤r
theorem newrd_on{s:Sl}{w:World}(h:SlRd .u8 w s):Calls prog 99 #[s.v] w (NewRdTo s.xs w):=by have K:=Ξ (clone_gives h);have HL:=Ξ h.le;unfold Gives at K;clear h;generalize s.v=v at *;generalize s.xs=xs at *;go_enter func99,ntmps99;go_wp2_with fail;refine K.out.mono ?_;rintro _ w2 ⟨v,rfl,hv,hb⟩;obtain ⟨s2,rfl,e2,hs,hbs,hc⟩:=own_sl hv HL.out;have H:=Ξ (Ψ e2 (Ψ hs (Ψ hbs (Ψ hc hb))));unfold Sl.v;clear e2 hs hbs hc hb hv K;go_wp2_with fail;go_ret;obtain ⟨e2,hs,hbs,hc,hb⟩:=H.out;have ka:=(Ω [] w2).alloc (.cells #[s2.v,.int .i64 0] tRd);exact ⟨w2.heap.size,rfl,⟨⟨s2,e2,Φ _ _ _,hs.only ka (by simp),fun _ b' hm=>(hbs b' hm).2,hc⟩⟩,hb.alloc hb.size _,hb.size⟩
theorem results_rq_tmp{fn:Func}{p u:Tmp}(h:fn.results=#[.cell p tRq,.tmp u])(tmps:Array Value)(w:World)(g:Nat)(R:Array Value)(hR:R.size=10)(hp:tmps.getD p undef=.pointer (some ⟨g,0,none⟩))(hg:Row w g R tRq):(results fn tmps).run prog w=.ok (.tuple #[.agg R,tmps.getD u undef]) w:=by
 have hp':tmps[p]?.getD undef=.pointer (some ⟨g,0,none⟩):=by simpa using hp
 simp only [results,h];simp [Sem.run_bind,hp',asAddr,Result.andThen,run_loadVar_row w g _ _ _ _ _ hg underlying50 rfl (by rw [show (prog.info? tRq).map (·.size)=some 10 from by kernel_rfl,hR])]
theorem zeroFn(w:World):(zeroValue 1).run prog w=.ok .nilFunc w:=by kernel_rfl
theorem wpList_look_to{P:Program}(w:World){ops:Array Oper}{rest:List Oper}{o:Oper}{a:Act}{Q:Exit→Act→World→Prop}(hg:o.guard=none)(m x:Operand)(t:TypeId)(hop:o.op=Op.lookup t m x false)(kt et:TypeId)(q:IntKind)(ht:P.underlying t=some (.map kt et))(hk:P.underlying kt=some (.int q))(z:Value)(hz:∀ w,(zeroValue et).run P w=.ok z w)
  (b:Nat) (L:List (Int×Value)) (hm:a.eval m=.map (some b)) (hown:MapAt w b q L) (key:Int) (hx:a.eval x=.int q key) (val:Value) (hv:(lk key L).getD z=val)
  (hK:wpList P ops Q rest (a.put o.dst val) w):wpList P ops Q (o :: rest) a w:=
 wpList_look_at w hg m x t false hop kt et q ht hk z hz b L hm hown key hx (by rw [if_neg (by simp),hv];exact hK)
abbrev tRp:TypeId:=41
abbrev doneCells(m:Int):Array Value:=#[.int .i64 1,.int .i64 m,.int .i64 0,.int .i64 0,.int .u64 0,.slice none 0 0,.slice none 0 0,.slice none 0 0,.slice none 0 0]
theorem eqf_nil(w:World)(fv:Value):Calls prog 178 #[.slice none 0 0,.slice none 0 0,fv] w fun e w'=>e=.returned (.bool true)∧w'=w:=by go_enter func178,ntmps178;go_wp2_with fail;refine wp_loop_rounds 1 ?_;rw [rounds_succ];go_wp2_with fail;go_ret;exact ⟨rfl,rfl⟩
theorem eqh_nil(w:World):Calls prog 179 #[.slice none 0 0,.slice none 0 0] w fun e w'=>e=.returned (.bool true)∧w'=w:=by go_enter func179,ntmps179;go_wp2_with fail;refine wp_loop_rounds 1 ?_;rw [rounds_succ];go_wp2_with fail;go_ret;exact ⟨rfl,rfl⟩
theorem itsame_no(w:World):Calls prog 177 #[.agg #[.int .u64 0,.slice none 0 0,.slice none 0 0],.agg #[.int .u64 0,.slice none 0 0,.slice none 0 0]] w fun e w'=>e=.returned (.bool true)∧Below w.heap.size w w':=by have h:=itsame (Rq.bare_at 0 w).it (Rq.bare_at 0 w).it;rw [show decide ((Rq.bare 0).it.c=(Rq.bare 0).it.c)=true from Γ rfl] at h;exact h
theorem sametell_done(m:Int)(w:World):Calls prog 117 #[.agg (doneCells m),.agg (doneCells m)] w fun e w'=>e=.returned (.bool true)∧Below w.heap.size w w':=by
 have hmf:=hmf_;have IS:=Ξ itsame_no;have mm:(m == m)=true:=by simp
 have R0:=Ξ (Φ w (doneCells m) tRp);have W1:Hid (Below w.heap.size w ((w.alloc (.cells (doneCells m) tRp)).alloc (.cells (doneCells m) tRp))):=Ξ (((Δ _ w).alloc (Θ _) _).alloc (by simp) _);have RA:Hid (Row ((w.alloc (.cells (doneCells m) tRp)).alloc (.cells (doneCells m) tRp)) w.heap.size (doneCells m) tRp):=Ξ (R0.out.only ((Ω [] _).alloc _) (by simp));have RB:Hid (Row ((w.alloc (.cells (doneCells m) tRp)).alloc (.cells (doneCells m) tRp)) (w.heap.size+1) (doneCells m) tRp):=Ξ (by
  have h:=Φ (w.alloc (.cells (doneCells m) tRp)) (doneCells m) tRp
  rwa [World.size_alloc] at h)
 clear R0;unfold doneCells at *;go_enter func117,ntmps117;go_wp2_with fail;refine (IS.out _).mono ?_;rintro _ w2 ⟨rfl,hb2⟩;have RA2:=RA.out.only ((Ω [] _).below hb2) (by simp);have RB2:=RB.out.only ((Ω [] _).below hb2) (by simp);have B2:=Ξ (W1.out.trans (hb2.mono W1.out.size));have l7:=RA2.c 7 (.slice none 0 0);have l8:=RA2.c 8 (.slice none 0 0);have r7:=RB2.c 7 (.slice none 0 0);have r8:=RB2.c 8 (.slice none 0 0);clear hb2 RA2 RB2 RA RB W1 IS;go_wp2_with fail;refine (eqf_nil w2 _).mono ?_;rintro _ w3 ⟨rfl,hw3⟩;subst w3;go_wp2_with fail;refine (eqh_nil w2).mono ?_;rintro _ w3 ⟨rfl,hw3⟩;subst w3;go_wp2_with fail;go_ret;exact ⟨rfl,B2.out⟩
theorem maytell_done(m:Int)(h0:0≤m)(h1:m≤7)(w:World):Calls prog 66 #[.agg (doneCells m)] w fun e w'=>e=.returned (.bool true)∧Below w.heap.size w w':=by have ST:=Ξ (sametell_done m);have d0:decide (0≤m)=true:=Γ h0;have d1:decide (m≤7)=true:=Γ h1;have W1:Hid (∀ v,Below w.heap.size w (((w.alloc (.cells (doneCells m) tRp)).alloc (.cells v tRp)))):=Ξ fun v=>((Δ _ w).alloc (Θ _) _).alloc (by simp) _;unfold doneCells at *;go_enter func66,ntmps66;go_wp2_with fail;refine (ST.out _).mono ?_;rintro _ w2 ⟨rfl,hb2⟩;have B2:Hid (Below w.heap.size w w2):=Ξ ((W1.out _).trans (hb2.mono (W1.out _).size));clear hb2 ST W1;go_wp2_with fail;go_ret;exact ⟨rfl,B2.out⟩
theorem infoWr:(prog.info? 154).map (fun i=>(i.zero,i.size,i.bytes))=some (some .nilFunc,1,8):=by kernel_rfl
theorem src_fn(w:World)(fv:Value):SrcOf (w.alloc (.cells #[fv] 154)) (.slice (some ⟨w.heap.size,0,none⟩) 1 1) 1 1 [fv]:=by
 refine .inr ⟨⟨w.heap.size,0,none⟩,1,rfl,rfl,fun j u hj=>?_⟩;cases j with
 | succ j=>simp at hj
 | zero=>
  rw [add_plain];simp at hj;subst hj;exact (Φ w #[fv] 154).cell 0
theorem all_own{W:World}{B:Nat}{v:Value}(fs:List (Value×List Int))(h:W.ownsRow B 154 1 v fs.length (fs.map (·.1)))(hw:∀ p∈fs,∃ K,Writes W p.1 p.2 K)(h0:0<fs.length)(h1:fs.length≤1000)(hs:∀ k,((fs.take k).flatMap (·.2)).length≤1000000) :
  Calls prog 74 #[v] W (Gives (fs.flatMap (·.2)) W):=by
 have hh:=h;rcases hh.2 with ⟨rfl,h2⟩|⟨g,cap,cur,rfl,_,_,_,_⟩
 ·omega
 ·refine all_on g 0 fs.length cap fs W rfl (fun j p hp=>⟨?_,hw p (List.mem_of_getElem? hp)⟩) hs h1;have hj:=(List.getElem?_eq_some_iff.1 hp).1;rw [Nat.zero_add,h.cellAt j (by omega),List.getElem?_map,hp];rfl
theorem tell_done(m:Int)(h0:0≤m)(h1:m≤7)(w:World):Calls prog 35 #[.agg (doneCells m)] w (AskTo [1,m] w):=by
 obtain ⟨i0',hi0,hz0,hz1,hz2⟩:=info_parts infoWr;have MA:=Ξ fun y=>maytell_done m h0 h1 y;have U1:=Ξ fun y=>u8_on 1 (by omega) (by omega) y;have U2:=Ξ fun y=>u8_on m (by omega) (by omega) y;have R0:=Ξ (Φ w (doneCells m) tRp);have W0:Hid (Below w.heap.size w (w.alloc (.cells (doneCells m) tRp))):=Ξ ((Δ _ w).alloc (Θ _) _);unfold doneCells at *;go_enter func35,ntmps35;go_wp2_with fail;refine (MA.out _).mono ?_;rintro _ w2 ⟨rfl,hb2⟩;have R2:=Ξ (R0.out.only ((Ω [] _).below hb2) (by simp));have B2:=Ξ (W0.out.trans (hb2.mono W0.out.size));have l0:=R2.out.c 0 (.int .i64 1);clear hb2 MA R0 W0 h0 h1;go_wp2_with fail;refine (U1.out _).mono ?_;rintro _ w3 ⟨fv,K1,rfl,hw,_,hb3⟩;obtain ⟨f1,cap1,rfl⟩:∃ f cap,fv=.func (.func f) #[] cap:=by exact hw.shape
 have B3:=Ξ (B2.out.trans (hb3.mono B2.out.size));have R3:=Ξ (R2.out.only ((Ω [] _).below hb3) (by simp));have B4:Hid (Below w.heap.size w (w3.alloc (.cells #[.func (.func f1) #[] cap1] 154))):=Ξ (B3.out.alloc B3.out.size _);have KG:Hid (∀ b∈K1,b≠w3.heap.size):=Ξ fun b hb=>Nat.ne_of_lt (hw.lt b hb);have WR1:=Ξ (hw.below ((Δ _ _).alloc (Θ _) (.cells #[.func (.func f1) #[] cap1] 154)));have OW:Hid ((w3.alloc (.cells #[.func (.func f1) #[] cap1] 154)).ownsRow w3.heap.size 154 1 (.slice (some ⟨w3.heap.size,0,none⟩) 1 1) 1 [.func (.func f1) #[] cap1]):=Ξ (World.ownsRow_lit w3 #[.func (.func f1) #[] cap1] 1 (Θ _) (by decide) rfl);have R4:=Ξ (R3.out.only ((Ω [] _).alloc (.cells #[.func (.func f1) #[] cap1] 154)) (by simp));have l40:=R4.out.c 0 (.int .i64 1);have l41:=R4.out.c 1 (.int .i64 m);have S4:Hid (w3.heap.size<(w3.alloc (.cells #[.func (.func f1) #[] cap1] 154)).heap.size):=Ξ (by simp);obtain ⟨g3,hg3⟩:∃ g3,w3.heap.size=g3:=⟨_,rfl⟩;rw [hg3] at OW S4 KG;have G3:Hid (w3.heap.size=g3):=Ξ hg3;clear hb3 hw U1 l0 R2;go_wp2_with fail;clear hg3;refine (U2.out _).mono ?_;generalize w3.alloc (.cells #[.func (.func f1) #[] cap1] 154)=w4 at *;rintro _ w5 ⟨fv,K2,rfl,hw,hk2,hb5⟩;obtain ⟨f2,cap2,rfl⟩:∃ f cap,fv=.func (.func f) #[] cap:=by exact hw.shape
 have B5:=Ξ (B4.out.trans (hb5.mono B4.out.size));have WR5:Hid (Writes w5 (.func (.func f1) #[] cap1) [1] K1∧Writes w5 (.func (.func f2) #[] cap2) [m] K2∧(∀ b∈K2,b≠g3)):=Ξ ⟨WR1.out.below hb5,hw,fun b hb=>by have:=hk2 b hb;have:=S4.out;omega⟩;have OW5:Hid (w5.ownsRow g3 154 1 (.slice (some ⟨g3,0,none⟩) 1 1) 1 [.func (.func f1) #[] cap1]):=Ξ (own_keep OW.out fun g hg=>((Ω [] w4).below hb5).block g (OW.out.lt g hg).2 (by simp));have S5:=Ξ (Nat.lt_of_lt_of_le S4.out hb5.size);clear hb5 hw hk2 U2 l40 l41 WR1 OW;go_wp2_with (at_builtin;refine wpList_append_src rfl (.tmp 22) (.tmp 26) 156 rfl g3 154 i0' .nilFunc 1 8 underlying156 hi0 hz0 hz1 hz2 rfl (by decide) _ 1 [.func (.func f1) #[] cap1] rfl ?s0 _ 1 [.func (.func f2) #[] cap2] rfl ?s1 ?s2 ?s3 ?s4 ?s5 ?s6);case s0=>exact OW5.out.alloc _
 case s1=>exact src_fn w5 _
 case s2=>simp [Value.oneCell']
 case s3=>decide
 case s4=>decide
 case s5=>have:=S5.out;simp;omega
 case s6=>
  intro v1 w6 hown1 hg1;have O56:Only [g3] w5 w6:=((Ω [g3] w5).alloc _).grown hg1 (by intro k hk;simp [Value.ownBlock] at hk;left;simp [hk]);have AL:=Ξ (all_own [(.func (.func f1) #[] cap1,[1]),(.func (.func f2) #[] cap2,[m])] hown1 (by
   intro p hp;simp at hp;rcases hp with rfl|rfl
   ·exact ⟨K1,WR5.out.1.only O56 (by intro b hb;simp;exact KG.out b hb)⟩
   ·exact ⟨K2,WR5.out.2.1.only O56 (by intro b hb;simp;exact WR5.out.2.2 b hb)⟩) (by simp) (by simp) (fun k=>by rcases k with _|_|k<;>simp))
  have B6:Hid (Below w.heap.size w w6):=Ξ (B5.out.trans (O56.toBelow B5.out.size (by intro i hi;simp at hi;have:=B4.out.size;have:=B3.out.size;have:=G3.out;omega)));unfold Gives at AL;clear hown1 hg1 O56;go_wp2_with fail;refine AL.out.mono ?_;rintro _ w7 ⟨v,rfl,ho,hb7⟩;have N7:Hid (w7.ownsRow w.heap.size 5 1 v 2 [.int .u8 1,.int .u8 m]∧Below w.heap.size w w7):=Ξ ⟨own_mono ho B6.out.size,B6.out.trans (hb7.mono B6.out.size)⟩;clear ho hb7 AL;go_wp2_with fail;go_ret2;exact ⟨v,rfl,N7.out.1,N7.out.2⟩
theorem results_rp_tmp{fn:Func}{p u:Tmp}(h:fn.results=#[.cell p tRp,.tmp u])(tmps:Array Value)(w:World)(g:Nat)(R:Array Value)(hR:R.size=9)(hp:tmps.getD p undef=.pointer (some ⟨g,0,none⟩))(hg:Row w g R tRp):(results fn tmps).run prog w=.ok (.tuple #[.agg R,tmps.getD u undef]) w:=by
 have hp':tmps[p]?.getD undef=.pointer (some ⟨g,0,none⟩):=by simpa using hp
 simp only [results,h];simp [Sem.run_bind,hp',asAddr,Result.andThen,run_loadVar_row w g _ _ _ _ _ hg underlying41 rfl (by rw [show (prog.info? tRp).map (·.size)=some 9 from by kernel_rfl,hR])]
end Go.Proofs.YtcgmgdjeamidlaaGreat
