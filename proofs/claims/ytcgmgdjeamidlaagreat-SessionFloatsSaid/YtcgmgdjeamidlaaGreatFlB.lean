/- Printed small by mini.py. -/
import Derived.Test.YtcgmgdjeamidlaaGreatMg38
import Derived.Deep.Fields
import Derived.Deep.Slices
import Derived.OpenShut
namespace Go.Proofs.YtcgmgdjeamidlaaGreat
set_option maxRecDepth 100000
set_option maxHeartbeats 16000000
open Go.RowKit Go.ChangeShapes Go.WideShapes Go.ChangeAt Go.Deep Go.Joins Go.Proofs.Tryz
set_option linter.unusedVariables false
set_option linter.unusedSimpArgs false
structure PrAt(w:World)(b o:Nat)(x:Int×Int):Prop where
 c0:w.cell? ⟨b,o,none⟩=some (.int .u64 x.1)
 c1:w.cell? ⟨b,o+1,none⟩=some (.int .u64 x.2)
 r0:0≤x.1∧x.1<18446744073709551616
 r1:0≤x.2∧x.2<18446744073709551616
def PrsIn(w:World)(a:Option Addr)(n:Nat)(l:List (Int×Int)):Prop:=l.length=n∧(n=0∨∃ b off,a=some ⟨b,off,none⟩∧∀ i x,l[i]? = some x→PrAt w b (off+i * 2) x)
theorem lit_u64{x:Int}(h:(Lit.int .u64 x).wf=true):0≤x∧x<18446744073709551616:=by
 have:0≤x∧x≤18446744073709551615:=by simpa [Lit.wf,IntKind.min,IntKind.max,IntKind.signed,IntKind.bits] using h
 omega
theorem prs_in{H:Type}{enc:TypeId×Value→H}{W:World}{fuel:Nat}{a:Option Addr}{n c:Nat}{x:DataW H×List MemPlace}(h:DataW.trod enc prog W 0 (fun _=>true) true fuel 45 [.slice a n c]=some x):∃ l,PrsIn W a n l:=by
 have ce:prog.cellsOf 51 = 2:=by kernel_rfl
 have c1:prog.cellsOf 34 = 1:=by kernel_rfl
 rcases open_slice underlying45 h with ⟨hcs,_⟩|⟨ad,len,cap,m,k,D,Pl,hcs,_,hl,hm,hmm,hxx,hx⟩
 ·simp at hcs;obtain ⟨rfl,rfl,rfl⟩:=hcs;exact ⟨[],rfl,.inl rfl⟩
 ·simp at hcs;obtain ⟨rfl,rfl,rfl⟩:=hcs;simp only [if_true] at hmm;subst hmm;by_cases h0:n=0
  ·exact ⟨[],h0 ▸ rfl,.inl h0⟩
  have each:∀ i,i<n→∃ x:Int×Int,W.cell? (ad.add (i * 2))=some (.int .u64 x.1)∧W.cell? (ad.add (i * 2+1))=some (.int .u64 x.2)∧(0≤x.1∧x.1<18446744073709551616)∧(0≤x.2∧x.2<18446744073709551616):=by
   intro i hi;obtain ⟨cs',h1,h2⟩:=hx i (by omega);rw [ce] at h1;obtain ⟨_,hlen,hcell⟩:=World.cells?_some h1;obtain ⟨xs,k2,_,hxD,_,hxl,hf⟩:=DataW.trod_array underlying51 h2;obtain ⟨v0,v1,rfl⟩:∃ v0 v1,cs'=[v0,v1]:=by rcases cs' with _|⟨v0,_|⟨v1,_|⟨v2,r⟩⟩⟩<;>simp at hlen;exact ⟨v0,v1,rfl⟩
   obtain ⟨x0,x1,rfl⟩:∃ x0 x1,xs=[x0,x1]:=by rcases xs with _|⟨x0,_|⟨x1,_|⟨x2,r⟩⟩⟩<;>simp at hxl;exact ⟨x0,x1,rfl⟩
   have t0:=hf 0 (by omega);have t1:=hf 1 (by omega);simp only [c1,Nat.zero_mul,Nat.one_mul,List.drop_succ_cons,List.drop_zero,List.take_succ_cons,List.take_zero,List.getElem?_cons_zero,List.getElem?_cons_succ] at t0 t1;obtain ⟨p0,r0,_,f0⟩:=DataW.trod_int underlying34 t0;obtain ⟨p1,r1,_,f1⟩:=DataW.trod_int underlying34 t1;simp only [List.cons.injEq,and_true] at r0 r1;have q0:=hcell 0 (by omega);have q1:=hcell 1 (by omega);rw [add_add] at q0 q1;simp only [List.getElem?_cons_zero,List.getElem?_cons_succ] at q0 q1;exact ⟨(p0,p1),by rw [←r0];exact q0,by rw [←r1];exact q1,lit_u64 f0,lit_u64 f1⟩
  obtain ⟨f,hf⟩:=choose_lt each;obtain ⟨b,off,path⟩:=ad;have hp:path=none:=by have:=World.cell?_spot (hf 0 (by omega)).1;simpa [Addr.add] using this
  subst hp;refine ⟨(List.range n).map f,by simp,.inr ⟨b,off,rfl,fun i x hx=>?_⟩⟩;have hi:i<n:=by have:=(List.getElem?_eq_some_iff.1 hx).1;simpa using this
  rw [List.getElem?_map,List.getElem?_range hi] at hx;simp only [Option.map_some,Option.some.injEq] at hx;subst hx;obtain ⟨h1,h2,h3,h4⟩:=hf i (by omega);rw [add_plain] at h1 h2;exact ⟨h1,h2,h3,h4⟩
theorem PrsIn.below{w w':World}{a:Option Addr}{n:Nat}{l:List (Int×Int)}(h:PrsIn w a n l)(k:Below w.heap.size w w'):PrsIn w' a n l:=by
 obtain ⟨h1,h2⟩:=h;refine ⟨h1,?_⟩;rcases h2 with h2|⟨b,off,e,h2⟩
 ·exact .inl h2
 ·refine .inr ⟨b,off,e,fun i x hx=>?_⟩;obtain ⟨a1,a2,a3,a4⟩:=h2 i x hx;have o:Only [] w w':=(Ω [] w).below k;exact ⟨by rw [o.cell (World.block_lt_of_cell? w _ a1) (by simp)];exact a1,by rw [o.cell (World.block_lt_of_cell? w _ a2) (by simp)];exact a2,a3,a4⟩
end Go.Proofs.YtcgmgdjeamidlaaGreat
