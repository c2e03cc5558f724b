/- Printed small by mini.py. -/
import Derived.Test.YtcgmgdjeamidlaaGreatRsG
import Derived.BigQuiet
namespace Go.Proofs.YtcgmgdjeamidlaaGreat
set_option maxRecDepth 100000
set_option maxHeartbeats 16000000
open Go.RowKit Go.ChangeShapes Go.WideShapes Go.ChangeAt Go.Proofs.Tryz
set_option linter.unusedVariables false
set_option linter.unusedSimpArgs false
set_option maxHeartbeats 16000000
theorem rsame_ok{x y:Rc3}{w:World}(hx:x.At w)(hy:y.At w)(he:x.c=y.c):Calls prog 152 #[x.v,y.v] w fun e w'=>e=.returned (.bool true)∧Below w.heap.size w w':=by
 obtain ⟨key,⟨a1,c1,v⟩,⟨a2,c2,t⟩⟩:=x;obtain ⟨key',⟨b1,d1,v'⟩,⟨b2,d2,t'⟩⟩:=y;unfold Rc3.c at he;simp only [Prod.mk.injEq] at he;obtain ⟨rfl,rfl,rfl⟩:=he;unfold Rc3.v Sl.v;simp only;obtain ⟨n,hn⟩:∃ n,v.length=n:=⟨_,rfl⟩;obtain ⟨m,hm⟩:∃ m,t.length=m:=⟨_,rfl⟩;have HN:Hid (v.length=n∧n≤1000000):=Ξ ⟨hn,by rw [←hn];exact hx.vec.le⟩;rw [hn,hm];have W:Hid (∀ cs ds,cs=#[Value.int .u64 key,.slice a1 n c1,.slice a2 m c2]→ds=#[Value.int .u64 key,.slice b1 n d1,.slice b2 m d2]→Row ((w.alloc (.cells cs tIt)).alloc (.cells ds tIt)) w.heap.size cs tIt∧Row ((w.alloc (.cells cs tIt)).alloc (.cells ds tIt)) (w.heap.size+1) ds tIt∧Only [] w ((w.alloc (.cells cs tIt)).alloc (.cells ds tIt))):=Ξ fun cs ds _ _=>by have h:=Φ (w.alloc (.cells cs tIt)) ds tIt;rw [World.size_alloc] at h;exact ⟨(Φ w cs tIt).only ((Ω [] _).alloc _) (by simp),h,((Ω [] w).alloc _).alloc _⟩
 have R:=Ξ (W.out _ _ rfl rfl);have V1:Hid (SlRd .i32 ((w.alloc (.cells #[.int .u64 key,.slice a1 n c1,.slice a2 m c2] tIt)).alloc (.cells #[.int .u64 key,.slice b1 n d1,.slice b2 m d2] tIt)) ⟨a1,c1,v⟩∧SlRd .i32 ((w.alloc (.cells #[.int .u64 key,.slice a1 n c1,.slice a2 m c2] tIt)).alloc (.cells #[.int .u64 key,.slice b1 n d1,.slice b2 m d2] tIt)) ⟨b1,d1,v⟩):=Ξ ⟨hx.vec.only R.out.2.2 (by simp),hy.vec.only R.out.2.2 (by simp)⟩;have T1:=(hx.tag.only R.out.2.2 (by simp)).ints;have T2:=(hy.tag.only R.out.2.2 (by simp)).ints;unfold Sl.v at T1 T2;simp only [hm] at T1 T2;have S1:=conv_ints T1;have S2:=conv_ints T2;generalize strOfNums t=S0 at *;have p0:=R.out.1.c 0 (.int .u64 key);have p1:=R.out.1.c 1 (.slice a1 n c1);have p2:=R.out.1.c 2 (.slice a2 m c2);have q0:=R.out.2.1.c 0 (.int .u64 key);have q1:=R.out.2.1.c 1 (.slice b1 n d1);have q2:=R.out.2.1.c 2 (.slice b2 m d2);clear hx hy W T1 T2 hn hm;go_enter func152,ntmps152;go_wp2_with fail;clear S1 S2 p0 p1 p2 q0 q1 q2;have BL:=Ξ (R.out.2.2.toBelow (Θ _) (by simp));generalize (w.alloc (.cells #[.int .u64 key,.slice a1 n c1,.slice a2 m c2] tIt)).alloc (.cells #[.int .u64 key,.slice b1 n d1,.slice b2 m d2] tIt)=w2 at *;go_loopw [5] (fun u wr=>∃ (i q:Nat),u=.int .i64 (i:Int)∧Hid (i≤n)∧wr=w2.drewN q) (fun u _=>n-(intOf u).toNat)
 case atStart=>exact ⟨0,0,rfl,Ξ (Nat.zero_le _),rfl⟩
 case round=>
  obtain ⟨i,q,rfl,HI,hw⟩:=hrel;subst hw;have ej:IntKind.i64.wrap ((i:Int)+1)=((i+1:Nat):Int):=IntWalk.i64_in _ (by have:=HI.out;have:=HN.out;omega);have e1:=R.out.1.c 1 (.slice a1 n c1);by_cases hlt:i<n
  ·have dd:decide ((i:Int)<(n:Int))=true:=Γ (by omega);have dd':decide (i<n)=true:=Γ hlt;have i2:(i:Int)<(n:Int):=(by omega);have i3:Hid (i+1≤n):=Ξ hlt;obtain ⟨z,hz⟩:∃ z,v[i]? = some z:=⟨_,List.getElem?_eq_getElem (by rw [HN.out.1];exact hlt)⟩;obtain ⟨g1,o1,h1,k1⟩:=V1.out.1.at_ hz;obtain ⟨g2,o2,h2,k2⟩:=V1.out.2.at_ hz;simp only at h1 h2;subst h1 h2;have x1:=k1 i z hz;have x2:=k2 i z hz;have f1:=R.out.1.c 1 (.slice (some ⟨g1,o1,none⟩) n c1);have f2:=R.out.2.1.c 1 (.slice (some ⟨g2,o2,none⟩) n d1);have zz:(z != z)=false:=(by simp);clear hlt hz k1 k2;go_wp2_with fail;go_quiet (fail)
   go_wp2_with fail;go_roundw;case rel=>exact ⟨i+1,_,by go_num,i3,rfl⟩
   case measure=>have:=i3.out;simp [intOf];omega
  ·have dd:decide ((i:Int)<(n:Int))=false:=Λ (by omega);have dd':decide (i<n)=false:=Λ hlt;clear hlt;go_wp2_with fail;go_ret;exact ⟨rfl,BL.out.trans (((Ω [] w2).drewN q).toBelow BL.out.size (by simp))⟩
end Go.Proofs.YtcgmgdjeamidlaaGreat
