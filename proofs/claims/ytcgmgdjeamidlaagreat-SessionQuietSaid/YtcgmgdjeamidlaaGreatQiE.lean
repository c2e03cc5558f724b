/- Printed small by mini.py. -/
import Derived.Test.YtcgmgdjeamidlaaGreatQiN
import Derived.Test.YtcgmgdjeamidlaaGreatFlC
import Derived.Deep.Fields
import Derived.Deep.Slices
import Derived.OpenShut
namespace Go.Proofs.YtcgmgdjeamidlaaGreat
set_option maxRecDepth 100000
set_option maxHeartbeats 16000000
open Go.RowKit Go.ChangeShapes Go.WideShapes Go.ChangeAt Go.Deep Go.Joins Go.Proofs.Tryz
set_option linter.unusedVariables false
set_option linter.unusedSimpArgs false
def InvU(D:PDB)(u:Int):Prop:=u=0∨∃ o,findP u D.op=some o
theorem one_ne_ref{m e p:Int}(h:refB e p=[1,m]):False:=by have:=congrArg List.head? h;simp [refB] at this
theorem ref_inj{e p e' p':Int}(h:refB e p=refB e' p'):e=e':=by unfold refB at h;simp at h;exact h.1
theorem findP_of'{u:Int}{l:List PTx}{o:PTx}(h:o∈l)(hn:o.n=u):∃ o',findP u l=some o':=by
 have h1:(findP u l).isSome=true:=by unfold findP;rw [List.find?_isSome];exact ⟨o,h,by simpa using hn⟩
 exact Option.isSome_iff_exists.1 h1
theorem InvU.wrote{D:PDB}{u k:Int}{v:Ver}(h:InvU D u):InvU (wroteP D u k v) u:=by
 rcases h with h|⟨o,ho⟩
 ·exact .inl h
 ·obtain ⟨m,hn⟩:=findP_some ho;exact .inr (findP_of' (o:={ o with wr:=upV k v o.wr }) (List.mem_map.2 ⟨o,m,by rw [if_pos hn]⟩) hn)
section
variable {D D':PDB} {u u' e p:Int} {zs b:List Int}
theorem PutS.quiet{ik m:Int}{vec tag:List Int}(h:PutS D u ik vec tag m (refB e p) D'):D'=D:=by
 rcases h with ⟨_,_,h⟩|⟨o,_,⟨_,_,h⟩|⟨_,h,_⟩⟩
 ·exact h
 ·exact h
 ·exact (one_ne_ref h).elim
theorem PutS.inv{ik m:Int}{vec tag:List Int}(hI:InvU D u)(h:PutS D u ik vec tag m zs D'):InvU D' u:=by
 rcases h with ⟨_,_,rfl⟩|⟨o,_,⟨_,_,rfl⟩|⟨_,_,v,_,rfl⟩⟩
 ·exact hI
 ·exact hI
 ·exact hI.wrote
theorem quiet_step(hI:InvU D u)(h:Step D u b (refB e p) D' u')(h11:e≠11)(h5:e≠5):D'=D∧u'=u:=by
 unfold Step at h;split at h
 ·exact h.2
 ·rename_i c _
  by_cases h0:u=0∧c.kind≠1∧c.kind≠9
  ·rw [if_pos h0] at h;exact h.2
  rw [if_neg h0] at h;unfold DoQ at h;by_cases k1:c.kind=1
  ·rw [if_pos k1] at h;rcases h with ⟨_,_,h⟩|⟨_,⟨_,h,_⟩|⟨_,h,_⟩⟩
   ·exact h
   ·exact (one_ne_ref h).elim
   ·exact absurd (ref_inj h) h5
  rw [if_neg k1] at h;by_cases k2:c.kind=2
  ·rw [if_pos k2] at h;exact ⟨h.1.quiet,h.2⟩
  rw [if_neg k2] at h;by_cases k3:c.kind=3
  ·rw [if_pos k3] at h;refine ⟨?_,h.2⟩;rcases h.1 with ⟨_,_,h⟩|⟨o,_,⟨_,_,h⟩|⟨_,h,_⟩⟩
   ·exact h
   ·exact h
   ·exact (one_ne_ref h).elim
  rw [if_neg k3] at h;by_cases k4:c.kind=4
  ·rw [if_pos k4] at h;exact h.2
  rw [if_neg k4] at h;by_cases k5:c.kind=5
  ·rw [if_pos k5] at h;exact h.2
  rw [if_neg k5] at h;by_cases k6:c.kind=6
  ·rw [if_pos k6] at h;exact h.2
  rw [if_neg k6] at h;have hu:c.kind≠9→∃ o,findP u D.op=some o:=fun k9=>by
   rcases hI with hI|hI
   ·exact absurd ⟨hI,k1,k9⟩ h0
   ·exact hI
  by_cases k7:c.kind=7
  ·rw [if_pos k7] at h;obtain ⟨o,ho⟩:=hu (by omega);rcases h.1 with ⟨h1,_⟩|⟨o,_,⟨_,h1,_⟩|⟨_,h1,_⟩⟩
   ·rw [ho] at h1;cases h1
   ·exact absurd (ref_inj h1) h11
   ·exact (one_ne_ref h1).elim
  rw [if_neg k7] at h;by_cases k8:c.kind=8
  ·rw [if_pos k8] at h;obtain ⟨o,ho⟩:=hu (by omega);rcases h.1 with ⟨h1,_⟩|⟨_,h1,_⟩
   ·rw [ho] at h1;cases h1
   ·exact (one_ne_ref h1).elim
  rw [if_neg k8] at h;by_cases k9:c.kind=9
  ·rw [if_pos k9] at h;exact (one_ne_ref h.1.1).elim
  rw [if_neg k9] at h;by_cases k10:c.kind=10
  ·rw [if_pos k10] at h;refine ⟨?_,h.2⟩;rcases h.1 with ⟨_,_,h⟩|⟨_,h⟩
   ·exact h
   ·exact h.quiet
  rw [if_neg k10] at h;exact h.2
theorem inv_step(hI:InvU D u)(hb:0≤D.begun)(h:Step D u b zs D' u'):InvU D' u':=by
 unfold Step at h;split at h
 ·obtain ⟨_,rfl,rfl⟩:=h;exact hI
 ·rename_i c _
  by_cases h0:u=0∧c.kind≠1∧c.kind≠9
  ·rw [if_pos h0] at h;obtain ⟨_,rfl,rfl⟩:=h;exact hI
  rw [if_neg h0] at h;unfold DoQ at h;split at h
  ·rcases h with ⟨_,_,rfl,rfl⟩|⟨_,⟨_,_,rfl,x,y,rfl⟩|⟨_,_,rfl,rfl⟩⟩
   ·exact hI
   ·exact .inr (findP_of' (o:=⟨D.begun+1,D.last,x,y,[]⟩) (by simp [beginP]) rfl)
   ·exact .inl rfl
  split at h
  ·obtain ⟨h,rfl⟩:=h;exact h.inv hI
  split at h
  ·obtain ⟨h,rfl⟩:=h;rcases h with ⟨_,_,rfl⟩|⟨o,_,⟨_,_,rfl⟩|⟨_,_,rfl⟩⟩
   ·exact hI
   ·exact hI
   ·exact hI.wrote
  split at h
  ·obtain ⟨_,rfl,rfl⟩:=h;exact hI
  split at h
  ·obtain ⟨_,rfl,rfl⟩:=h;exact hI
  split at h
  ·obtain ⟨_,rfl,rfl⟩:=h;exact hI
  split at h
  ·exact .inl h.2
  split at h
  ·exact .inl h.2
  split at h
  ·obtain ⟨h,rfl⟩:=h;rcases h.2 with ⟨_,rfl⟩|⟨_,all',_,_,rfl⟩
   ·exact hI
   ·exact hI
  split at h
  ·obtain ⟨h,rfl⟩:=h;rcases h with ⟨_,_,rfl⟩|⟨_,h⟩
   ·exact hI
   ·exact h.inv hI
  ·obtain ⟨_,rfl,rfl⟩:=h;exact hI
end
/-! ### lists of bytes -/
structure ByAt(w:World)(b o:Nat)(s:Sl):Prop where
 row:∃ zs,IsRow .u8 w s.a s.xs.length s.c zs∧s.xs=zs.take s.xs.length
 c0:w.cell? ⟨b,o,none⟩=some s.v
def BysIn(w:World)(a:Option Addr)(n:Nat)(ss:List Sl):Prop:=ss.length=n∧(n=0∨∃ b off,a=some ⟨b,off,none⟩∧∀ i s,ss[i]? = some s→ByAt w b (off+i) s)
theorem bys_in{H:Type}{enc:TypeId×Value→H}{W:World}{fuel:Nat}{a:Option Addr}{n c:Nat}{x:DataW H×List MemPlace}(h:DataW.trod enc prog W 0 (fun _=>true) true fuel 22 [.slice a n c]=some x):∃ ss,BysIn W a n ss:=by
 have ce:prog.cellsOf 30 = 1:=by kernel_rfl
 rcases open_slice underlying22 h with ⟨hcs,_⟩|⟨ad,len,cap,m,k,D,Pl,hcs,_,hl,hm,hmm,hxx,hx⟩
 ·simp at hcs;obtain ⟨rfl,rfl,rfl⟩:=hcs;exact ⟨[],rfl,.inl rfl⟩
 ·simp at hcs;obtain ⟨rfl,rfl,rfl⟩:=hcs;simp only [if_true] at hmm;subst hmm;by_cases h0:n=0
  ·exact ⟨[],h0 ▸ rfl,.inl h0⟩
  have each:∀ i,i<n→∃ s:Sl,(∃ zs,IsRow .u8 W s.a s.xs.length s.c zs∧s.xs=zs.take s.xs.length)∧W.cell? (ad.add (i * 1))=some s.v:=by
   intro i hi;obtain ⟨cs',h1,h2⟩:=hx i (by omega);rw [ce] at h1;obtain ⟨_,hlen,hcell⟩:=World.cells?_some h1;obtain ⟨v0,rfl⟩:∃ v0,cs'=[v0]:=by rcases cs' with _|⟨v0,_|⟨v1,r⟩⟩<;>simp at hlen;exact ⟨v0,rfl⟩
   have q0:=hcell 0 (by omega);rw [add_add] at q0;simp only [List.getElem?_cons_zero,Nat.add_zero] at q0;rcases open_ints underlying30 underlying5 (by kernel_rfl) h2 with ⟨hcs,_⟩|⟨a,l,c,zs,hcs,_,hl,hm,hz,hx,hcell,hwz⟩
   ·simp only [List.cons.injEq,and_true] at hcs;exact ⟨Sl.no,⟨[],.inl ⟨rfl,rfl,rfl,rfl⟩,rfl⟩,by rw [q0,hcs];rfl⟩
   ·simp only [List.cons.injEq,and_true] at hcs;have hz':zs.length=c:=by simpa using hz
    have hlen:(zs.take l).length=l:=by simp;omega
    exact ⟨⟨some a,c,zs.take l⟩,⟨zs,.inr ⟨a,rfl,by simp only [hlen];exact hl,hm,hz',hcell,hwz⟩,by simp only [hlen]⟩,by rw [q0,hcs];simp [Sl.v,hlen]⟩
  obtain ⟨f,hf⟩:∃ f:Nat→Sl,∀ i,i<n→(∃ zs,IsRow .u8 W (f i).a (f i).xs.length (f i).c zs∧(f i).xs=zs.take (f i).xs.length)∧W.cell? (ad.add (i * 1))=some (f i).v:=
   ⟨fun i=>if h:i<n then (each i h).choose else Sl.no,fun i hi=>by simp only [dif_pos hi];exact (each i hi).choose_spec⟩
  obtain ⟨b,off,path⟩:=ad;have hp:path=none:=by have:=World.cell?_spot (hf 0 (by omega)).2;simpa [Addr.add] using this
  subst hp;refine ⟨(List.range n).map f,by simp,.inr ⟨b,off,rfl,fun i x hx=>?_⟩⟩;have hi:i<n:=by have:=(List.getElem?_eq_some_iff.1 hx).1;simpa using this
  rw [List.getElem?_map,List.getElem?_range hi] at hx;simp only [Option.map_some,Option.some.injEq] at hx;subst hx;obtain ⟨h1,h2⟩:=hf i (by omega);rw [Nat.mul_one,add_plain] at h2;exact ⟨h1,h2⟩
theorem ByAt.rd{W w:World}{b o:Nat}{s:Sl}(h:ByAt W b o s)(hn:s.xs.length≤50000)(k:Below W.heap.size W w):SlRd .u8 w s∧IsBy s.xs∧s.xs.length≤s.c:=by
 obtain ⟨zs,hr,e⟩:=h.row;have hw:=hr.wf;have hlt:s.xs≠[]→∀ b∈s.bs,b<W.heap.size:=fun hne b hb=>by
  rcases hr with ⟨_,e2,_⟩|⟨x,ha,h1,_,h2,hc,_⟩
  ·exact absurd (List.length_eq_zero_iff.1 e2) hne
  ·unfold Sl.bs at hb;rw [ha] at hb;simp at hb;subst hb;have h0:0<zs.length:=by
    cases zs with
    | nil=>simp at e;exact absurd e hne
    | cons=>simp
   have h7:=World.block_lt_of_cell? W _ (hc 0 h0);have e7:(x.add 0).block=x.block:=by unfold Addr.add;split<;>rfl
   rw [e7] at h7;exact h7
 have hS:SlRd .u8 W s:=⟨by unfold Sl.v;have h:=hr.ints;rw [←e] at h;exact h,hlt,fun ha=>(by
  rcases hr with ⟨_,e2,e3,_⟩|⟨x,ha',_⟩
  ·exact ⟨List.length_eq_zero_iff.1 e2,e3⟩
  ·rw [ha'] at ha;cases ha),by omega⟩
 refine ⟨hS.only ((Ω [] W).below k) (by simp),fun x hx=>?_,by rcases hr with ⟨_,e2,_⟩|⟨x,_,h1,_⟩<;>omega⟩;have h:=hw x (by rw [←e];exact hx);have:0≤x∧x≤255:=by simpa [Lit.wf,IntKind.min,IntKind.max,IntKind.signed,IntKind.bits] using h
 omega
end Go.Proofs.YtcgmgdjeamidlaaGreat
