/- Printed small by mini.py. -/
import Derived.Test.YtcgmgdjeamidlaaGreatRsD
namespace Go.Proofs.YtcgmgdjeamidlaaGreat
set_option maxRecDepth 100000
set_option maxHeartbeats 16000000
open Go.RowKit Go.ChangeShapes Go.WideShapes Go.ChangeAt Go.Proofs.Tryz
set_option linter.unusedVariables false
set_option linter.unusedSimpArgs false
set_option maxHeartbeats 4000000
abbrev tRr:TypeId:=113
structure RrAt(w:World)(r:Nat)(xs:List Int):Prop where
 at_:∃ s:Sl,s.xs=xs∧Row w r #[s.v,.int .i64 0] tRr∧SlRd .u8 w s∧(xs≠[]→∀ b∈s.bs,b<r)∧xs.length≤s.c
theorem RrAt.behind{w w':World}{r:Nat}{xs:List Int}{G:List Nat}(h:RrAt w r xs)(k:Only G w w')(hG:∀ b∈G,r<b):RrAt w' r xs:=by obtain ⟨s,e1,h1,h2,h3,h4⟩:=h.at_;exact ⟨s,e1,h1.only k fun hm=>by have:=hG _ hm;omega,h2.only k fun he b hb hm=>by have h6:=hG b hm;have h7:=h3 (by rw [←e1];exact he) b hb;omega,h3,h4⟩
theorem RrAt.cutAt{w:World}{r k:Nat}{s:Sl}(hr:Row w r #[s.v,.int .i64 0] tRr)(hs:SlRd .u8 w s)(hne:s.xs≠[]→∀ b∈s.bs,b<r)(hc:s.xs.length≤s.c)(hk:k≤s.xs.length) :
  RrAt (w.setCell ⟨r,0,none⟩ (s.cut k s.xs.length).v) r (s.xs.drop k):=by
 have K:Only [r] w (w.setCell ⟨r,0,none⟩ (s.cut k s.xs.length).v):=(Ω [r] w).setCell (.inl (by simp)) _;have ex:(s.cut k s.xs.length).xs=s.xs.drop k:=by unfold Sl.cut;simp only;exact List.take_of_length_le (by simp)
 refine ⟨s.cut k s.xs.length,ex,by simpa using hr.set 0 (s.cut k s.xs.length).v,(hs.cut hk (Θ _) hc).only K (fun hx b hb=>?_),fun hx=>?_,?_⟩
 ·rw [Sl.cut_bs] at hb;rw [ex] at hx;simp only [List.mem_singleton];rintro rfl;have:=hne (fun e=>hx (by simp [e])) _ hb;omega
 ·rw [Sl.cut_bs];exact hne fun e=>hx (by simp [e])
 ·rw [List.length_drop];unfold Sl.cut;simp only;omega
def NumTo(r k:Nat)(xs:List Int)(w:World)(z:Ending)(w':World):Prop:=z=.returned (.int .u64 (leV (xs.take k)))∧RrAt w' r (xs.drop k)∧Only [r] w w'
theorem rnum_ok{r:Nat}{xs:List Int}{w:World}(h:RrAt w r xs)(hb:IsBy xs)(k:Nat)(h8:k≤8)(hk:k≤xs.length) :
  Calls prog 37 #[.pointer (some ⟨r,0,none⟩),.int .i64 (k:Int)] w (NumTo r k xs w):=by
 obtain ⟨s,rfl,hr,hs,hne,hc⟩:=h.at_;have c0:=hr.c 0 (.slice s.a s.xs.length s.c);have c1:=hr.c 1 (.int .i64 0);have f0:=hr.free 0;have dk:decide ((s.xs.length:Int)<(k:Int))=false:=Λ (by omega);have dk':decide (s.xs.length<k)=false:=Λ (by omega);have HL:Hid (k≤s.xs.length∧k≤8):=Ξ ⟨hk,h8⟩;have HB:=Ξ hb;have e2:∀ y:World,(Instr.slice 30 (.slice s.a s.xs.length s.c) (some (.int .i64 (k:Int))) none none).run prog y=.ok (s.cut k s.xs.length).v y:=fun y=>run_tail underlying30 infoBy .i64 s (by omega) y;have HC:Hid (∀ i z,(s.xs)[i]? = some z→∃ b o,s.a=some ⟨b,o,none⟩∧w.cell? ⟨b,o+i,none⟩=some (.int .u8 z)):=Ξ fun i z hz=>by obtain ⟨b,o,h2,h3⟩:=hs.at_ hz;exact ⟨b,o,h2,h3 i z hz⟩
 have N:Hid (NumTo r k s.xs w (.returned (.int .u64 (leV (s.xs.take k)))) (w.setCell ⟨r,0,none⟩ (s.cut k s.xs.length).v)):=Ξ ⟨rfl,RrAt.cutAt hr hs hne hc hk,(Ω [r] w).setCell (.inl (by simp)) _⟩;have ev2:(s.cut k s.xs.length).v=.slice (s.cut k s.xs.length).a (s.xs.length-k) (s.cut k s.xs.length).c:=by unfold Sl.v;rw [Sl.cut_len s (by omega) (Θ _)]
 rw [ev2] at e2 N;generalize (s.cut k s.xs.length).a=a2 at *;generalize (s.cut k s.xs.length).c=k2 at *;obtain ⟨q,hq⟩:∃ q,s.xs.length-k=q:=⟨_,rfl⟩;rw [hq] at e2 N;obtain ⟨n,hn⟩:∃ n,s.xs.length=n:=⟨_,rfl⟩;rw [hn] at c0 e2 dk dk' HL;have HN:=Ξ hn;obtain ⟨a,ha⟩:∃ a,s.a=a:=⟨_,rfl⟩;obtain ⟨cc,hcc⟩:∃ c,s.c=c:=⟨_,rfl⟩;rw [ha] at c0 e2 HC;rw [hcc] at c0 e2;have EI:IntKind.i64.wrap ((k:Int)-1)=(k:Int)-1:=IntWalk.i64_in _ (by omega);clear h hr hs hne hc hb hk h8 ev2 ha hcc hq hn;go_enter func37,ntmps37;go_wp2_with fail;go_loopw [5,6] (fun x u wr=>∃ (j:Nat) (i:Int),u=.int .i64 i∧Hid (j≤k∧i=(j:Int)-1)∧x=.int .u64 (leV ((s.xs.take k).drop j))∧wr=w) (fun _ u _=>(intOf u+1).toNat)
 case atStart=>exact ⟨k,_,rfl,Ξ ⟨Θ _,rfl⟩,by rw [List.drop_eq_nil_of_le (by simp;omega)];rfl,rfl⟩
 case round=>
  obtain ⟨j,i,rfl,HJ,rfl,hw⟩:=hrel;have hw:=hw.symm;subst hw;rcases j with _|j
  ·obtain rfl:i = -1:=by have:=HJ.out.2;omega
   go_wp2_with fail;go_ret;exact N.out
  ·obtain rfl:i=(j:Int):=by have:=HJ.out.2;omega
   have j0:(0:Int)≤(j:Int):=Int.natCast_nonneg _;have d1:decide ((0:Int)≤(j:Int))=true:=Γ j0;have j3:(j:Int)<(n:Int):=by have:=HJ.out.1;have:=HL.out.1;omega
   obtain ⟨cv,hv1,hv2⟩:=HB.out.at_ (show j<s.xs.length by have:=HN.out;omega);obtain ⟨g,o,rfl,l1⟩:=HC.out j _ hv1;have ED:Hid ((s.xs.take k).drop j=(cv:Int) :: (s.xs.take k).drop (j+1)):=Ξ (drop_step (by rw [List.getElem?_take_of_lt (by have:=HJ.out.1;omega)];exact hv1));have BT:IsBy ((s.xs.take k).drop (j+1)):=fun x hx=>HB.out x (List.mem_of_mem_take (List.mem_of_mem_drop hx));obtain ⟨v0,v1⟩:=leV_lt _ BT;have ll:((s.xs.take k).drop (j+1)).length≤7:=by have:=HL.out;simp;omega
   have p7:(256:Int) ^ ((s.xs.take k).drop (j+1)).length≤256 ^ 7:=by
    have h:(256:Nat) ^ ((s.xs.take k).drop (j+1)).length≤256 ^ 7:=Nat.pow_le_pow_right (by omega) ll;have h2:=Int.ofNat_le.2 h
    rwa [Int.natCast_pow,Int.natCast_pow] at h2
   have EV:Hid (leV ((s.xs.take k).drop j)=leV ((s.xs.take k).drop (j+1)) * 256+(cv:Int)):=Ξ (by rw [ED.out];simp only [leV];omega);generalize leV ((s.xs.take k).drop (j+1))=V at *;have w1:IntKind.u64.wrap (V * 256)=V * 256:=by show V * 256 % 18446744073709551616=_;omega
   have w2:IntKind.u64.wrap (V * 256+(cv:Int))=V * 256+(cv:Int):=by show (V * 256+(cv:Int)) % 18446744073709551616=_;omega
   have w3:IntKind.u64.wrap (cv:Int)=(cv:Int):=by show (cv:Int) % 18446744073709551616=_;omega
   have w4:IntKind.i64.wrap ((j:Int)-1)=(j:Int)-1:=IntWalk.i64_in _ (by have:=HJ.out.1;have:=HL.out;omega);have J1:Hid (j≤k):=Ξ (by have:=HJ.out.1;omega);clear hv1 hv2 BT v0 v1 ll p7 ED HJ;go_wp2_with fail;go_roundw;case rel=>exact ⟨j,(j:Int)-1,by go_num,Ξ ⟨J1.out,rfl⟩,by rw [EV.out],by trivial⟩
   case measure=>simp [intOf]
end Go.Proofs.YtcgmgdjeamidlaaGreat
