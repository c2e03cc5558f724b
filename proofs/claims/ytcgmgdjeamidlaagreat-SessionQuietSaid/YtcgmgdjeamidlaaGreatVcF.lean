/- Texts of one proof, joined. -/
import Derived.Test.YtcgmgdjeamidlaaGreatVcD
import Derived.Lib.AppendZerosOnto
import Derived.Sort.Grow
namespace Go.Proofs.YtcgmgdjeamidlaaGreat.vc
set_option maxRecDepth 100000
set_option maxHeartbeats 16000000
open Go.RowKit Go.ChangeShapes Go.WideShapes Go.ChangeAt
theorem infoHit:(Tryz.prog.info? 118).map (fun i=>(i.zero,i.size,i.bytes))=some (some (.agg #[.int .u64 0,.int .i64 0]),2,16):=by kernel_rfl
def hc(xs:List (Int×Int)):List Value:=xs.flatMap fun x=>[.int .u64 x.1,.int .i64 x.2]
theorem hc_len(xs:List (Int×Int)):(hc xs).length=xs.length * 2:=by
 induction xs with
 | nil=>rfl
 | cons x r ih=>simp [hc] at ih ⊢;omega
theorem hc_append(xs ys:List (Int×Int)):hc (xs++ys)=hc xs++hc ys:=by simp [hc]
theorem hc_one(xs:List (Int×Int)):∀ u∈hc xs,u.oneCell'=true:=by intro u hu;simp only [hc,List.mem_flatMap] at hu;obtain ⟨x,_,hx⟩:=hu;simp at hx;rcases hx with rfl|rfl<;>rfl
theorem clone_nil(w:World):Calls Tryz.prog 263 #[.slice none 0 0] w fun e w'=>e=.returned (.slice none 0 0)∧w=w':=by
 have h:=fun w=>@Lib.run_eql_slice_nil Tryz.prog w;go_enter Tryz.func263,Tryz.ntmps263
 go_wp2
 go_ret;exact ⟨rfl,rfl⟩
theorem clone_some(ad:Addr)(n c:Nat)(news:List Value)(w:World)(hsrc:SrcOf w (.slice (some ad) n c) n 2 news)(h1:∀ u∈news,u.oneCell'=true)(hn:n * 16≤140737488355328) :
  Calls Tryz.prog 263 #[.slice (some ad) n c] w fun e w'=>∃ v,e=.returned v∧w'.ownsRow w.heap.size 118 2 v n news∧Below w.heap.size w w':=by
 have hS:=Lib.hid hsrc;have h1':=Lib.hid h1;clear hsrc h1;obtain ⟨i0,hi,hz0,hz1,hz2⟩:=info_parts infoHit;have hq:=fun w=>@Lib.run_eql_slice_nil Tryz.prog w;go_enter Tryz.func263,Tryz.ntmps263;go_wp2_with (at_builtin;refine wpList_append_src rfl (.tmp 5) (.tmp 6) 39 rfl w.heap.size 118 i0 (.agg #[.int .u64 0,.int .i64 0]) 2 16 Tryz.underlying39 hi hz0 hz1 hz2 rfl (by decide) _ 0 [] rfl (World.ownsRow_made w #[] 0 (Nat.le_refl _) (by decide) rfl) _ n news rfl ?s1 ?s2 ?s3 ?s4 ?s5 ?s6);case s1=>exact hS.out.below ((Below.refl _ _).alloc (Nat.le_refl _) _)
 case s2=>exact h1'.out
 case s3=>unfold maxLen;omega
 case s4=>omega
 case s5=>simp
 case s6=>
  intro v1 w1 hown1 hg1;have b1:Below w.heap.size w w1:=((Below.refl _ _).alloc (Nat.le_refl _) _).grown hg1 (by simp) (by simp [Value.ownBlock]);have O1:=Lib.hid hown1;have B1:=Lib.hid b1;clear hg1 hown1 b1
  go_wp2
  go_ret;exact ⟨v1,rfl,by simpa using O1.out,B1.out⟩
theorem grow_zero(w:World):Calls Tryz.prog 269 #[.slice none 0 0,.int .i64 0] w fun e w'=>e=.returned (.slice none 0 0)∧w=w':=by
 go_enter Tryz.func269,Tryz.ntmps269
 go_wp2
 go_ret;exact ⟨rfl,rfl⟩
theorem grow_some(n:Nat)(w:World)(h0:0<n)(hn:n * 16≤140737488355328) :
  Calls Tryz.prog 269 #[.slice none 0 0,.int .i64 n] w fun e w'=>∃ v,e=.returned v∧w'.ownsRow w.heap.size 118 2 v 0 []∧Below w.heap.size w w':=by
 obtain ⟨i0,hi,hz0,hz1,hz2⟩:=info_parts infoHit;have hold:(Builtin.firstCells i0.size 0 (.slice none 0 0)).run Tryz.prog w.drew=.ok ([]:List Value).toArray w.drew:=by simp [Builtin.firstCells]
 have hcapn:Builtin.nextslicecap (0+n) 0=n:=by unfold Builtin.nextslicecap;rw [if_pos (by omega),Nat.zero_add]
 have hrun:=fun ty=>Lib.run_append_grow_zeros (P:=Tryz.prog) w 39 3 ty 118 i0 (.agg #[.int .u64 0,.int .i64 0]) .i64 .i64 Tryz.underlying39 Tryz.underlying3 hi hz0 none 0 0 [] hold n h0 (by omega) (by omega) (by omega) (by rw [hz2];omega) (by rw [hcapn,hz2];omega);simp only [Nat.zero_add] at hrun;have hc1:n≤grownCap w n 0 118:=grownCap_ge w n 0 _;have hc2:grownCap w n 0 118≤maxLen:=grownCap_le_maxLen w n 0 _ (by unfold maxLen;omega);generalize grownCap w n 0 118 = c at hrun hc1 hc2;have hz:(Builtin.zeroCells (Value.agg #[.int .u64 0,.int .i64 0]).cells n++Builtin.zeroCells (Value.agg #[.int .u64 0,.int .i64 0]).cells (c-n)).size=c * 2:=by simp [Builtin.zeroCells,Value.cells];omega
 simp only [List.toArray,Array.empty_append] at hrun;generalize Builtin.zeroCells (Value.agg #[.int .u64 0,.int .i64 0]).cells n++Builtin.zeroCells (Value.agg #[.int .u64 0,.int .i64 0]).cells (c-n)=zs at hrun hz;unfold maxLen at hc2;have HZ:=Lib.hid hz;clear hz hcapn hold;go_enter Tryz.func269,Tryz.ntmps269;go_wp2_with (at_builtin;refine Lib.wpList_append_run _ rfl _ _ _ _ rfl _ _ rfl rfl _ _ (hrun _) ?_);go_ret;exact ⟨_,rfl,World.ownsRow_made w.drew zs c (Nat.le_refl _) (by unfold maxLen;omega) HZ.out,(Below.refl _ _).drew.alloc (Nat.le_refl _) _⟩
theorem grow_any(n:Nat)(w:World)(hn:n * 16≤140737488355328) :
  Calls Tryz.prog 269 #[.slice none 0 0,.int .i64 n] w fun e w'=>∃ v,e=.returned v∧w'.ownsRow w.heap.size 118 2 v 0 []∧Below w.heap.size w w':=by
 by_cases h:n=0
 ·subst h;exact (grow_zero w).mono fun e w' ⟨h1,h2⟩=>⟨_,h1,World.ownsRow_nil _ _ _ _,h2 ▸ Below.refl _ _⟩
 ·exact grow_some n w (by omega) hn
def catTo(xs ys:List (Int×Int)):Nat→List (Int×Int)
 | 0=>[]
 | 1=>xs
 | _=>xs++ys
def lenTo(n1 n2:Nat):Nat→Nat
 | 0=>0
 | 1=>n1
 | _=>n1+n2
theorem concat_any(s1 s2:Value)(B c n1 n2:Nat)(xs ys:List (Int×Int))(w:World)(a1 a2:Option Addr)(c1 c2:Nat)(e1:s1=.slice a1 n1 c1)(e2:s2=.slice a2 n2 c2)
  (h0:w.cell? ⟨B,0,none⟩=some s1) (h1:w.cell? ⟨B,1,none⟩=some s2)
  (l1:xs.length=n1) (l2:ys.length=n2) (i1:SrcOf w s1 n1 2 (hc xs)) (i2:SrcOf w s2 n2 2 (hc ys)) (hb:(n1+n2) * 16≤140737488355328) :
  Calls Tryz.prog 260 #[.slice (some ⟨B,0,none⟩) 2 c] w fun e w'=>∃ v,e=.returned v∧w'.ownsRow w.heap.size 118 2 v (n1+n2) (hc (xs++ys))∧Below w.heap.size w w':=by
 subst e1 e2;have L1:=Lib.hid l1;have L2:=Lib.hid l2;have I1:=Lib.hid i1;have I2:=Lib.hid i2;clear l1 l2 i1 i2;obtain ⟨i0,hi,hz0,hz1,hz2⟩:=info_parts infoHit;go_enter Tryz.func260,Tryz.ntmps260
 go_wp2
 go_loop [3,11] (fun s i=>∃ k:Nat,k≤2∧i=.int .i64 k∧s=.int .i64 (lenTo n1 n2 k:Nat)) (fun _ i=>2-(intOf i).toNat)
 case atStart=>exact ⟨0,by omega,rfl,rfl⟩
 case round=>
  obtain ⟨k,hk,rfl,rfl⟩:=hrel;have hk3:k=0∨k=1∨k=2:=by omega
  rcases hk3 with rfl|rfl|rfl
  ·unfold lenTo
   go_wp2
   go_round
   case rel=>exact ⟨1,by omega,by go_num,by first|rfl|go_num⟩
   case measure=>simp [intOf]
  ·unfold lenTo
   go_wp2
   go_round
   case rel=>exact ⟨2,by omega,by go_num,by first|rfl|go_num⟩
   case measure=>simp [intOf]
  ·unfold lenTo;go_wp2_with fail;rw [show ((n1:Int)+(n2:Int))=((n1+n2:Nat):Int) by omega];refine (grow_any (n1+n2) _ hb).mono ?_;rintro e w1 ⟨v1,rfl,hown1,hb1⟩;have O1:=Lib.hid hown1;have B1:=Lib.hid hb1;have z1:=hb1.size;have lB:=World.block_lt_of_cell? w _ h0;simp only at lB;clear hown1 hb1;have H0:=Lib.hid h0;have H1:=Lib.hid h1;clear h0 h1;go_wp2_with fail;go_loopw [6,27] (fun v i wr=>∃ k:Nat,k≤2∧i=.int .i64 k∧wr.ownsRow w.heap.size 118 2 v (lenTo n1 n2 k) (hc (catTo xs ys k))∧Below w.heap.size w wr) (fun _ i _=>2-(intOf i).toNat)
   case atStart=>exact ⟨0,by omega,rfl,O1.out,B1.out⟩
   case round=>
    obtain ⟨k,hk,rfl,hown,hbel⟩:=hrel;have hk3:k=0∨k=1∨k=2:=(by omega);have z2:=hbel.size;rcases hk3 with rfl|rfl|rfl
    ·have c0:wr.cell? ⟨B,0,none⟩=some (.slice a1 n1 c1):=(hbel.cell (p:=⟨B,0,none⟩) lB).trans H0.out;have O:=Lib.hid hown;have BB:=Lib.hid hbel;clear hown hbel;go_wp2_with (at_builtin;refine wpList_append_src rfl (.tmp 31) (.tmp 32) 39 rfl w.heap.size 118 i0 (.agg #[.int .u64 0,.int .i64 0]) 2 16 Tryz.underlying39 hi hz0 hz1 hz2 rfl (by decide) _ (lenTo n1 n2 0) (hc (catTo xs ys 0)) rfl O.out _ n1 (hc xs) rfl ?s1 ?s2 ?s3 ?s4 ?s5 ?s6);case s1=>exact I1.out.below BB.out
     case s2=>exact hc_one xs
     case s3=>show 0+n1≤maxLen;unfold maxLen;omega
     case s4=>show (0+n1) * 16≤_;omega
     case s5=>exact z2
     case s6=>
      intro v2 w2 hown2 hg2;have b2:Below w.heap.size w w2:=BB.out.grown hg2 z2 (fun k hk=>(O.out.lt k hk).1);have O2:=Lib.hid hown2;have B2:=Lib.hid b2;clear hown2 b2 hg2
      go_wp2
      go_roundw;case rel=>exact ⟨1,by omega,by go_num,by simpa [lenTo,catTo,hc] using O2.out,B2.out⟩
      case measure=>simp [intOf]
    ·have c0:wr.cell? ⟨B,1,none⟩=some (.slice a2 n2 c2):=(hbel.cell (p:=⟨B,1,none⟩) lB).trans H1.out;have O:=Lib.hid hown;have BB:=Lib.hid hbel;clear hown hbel;go_wp2_with (at_builtin;refine wpList_append_src rfl (.tmp 31) (.tmp 32) 39 rfl w.heap.size 118 i0 (.agg #[.int .u64 0,.int .i64 0]) 2 16 Tryz.underlying39 hi hz0 hz1 hz2 rfl (by decide) _ (lenTo n1 n2 1) (hc (catTo xs ys 1)) rfl O.out _ n2 (hc ys) rfl ?t1 ?t2 ?t3 ?t4 ?t5 ?t6);case t1=>exact I2.out.below BB.out
     case t2=>exact hc_one ys
     case t3=>show n1+n2≤maxLen;unfold maxLen;omega
     case t4=>show (n1+n2) * 16≤_;omega
     case t5=>exact z2
     case t6=>
      intro v2 w2 hown2 hg2;have b2:Below w.heap.size w w2:=BB.out.grown hg2 z2 (fun k hk=>(O.out.lt k hk).1);have O2:=Lib.hid hown2;have B2:=Lib.hid b2;clear hown2 b2 hg2
      go_wp2
      go_roundw;case rel=>exact ⟨2,by omega,by go_num,by simpa [lenTo,catTo,hc_append] using O2.out,B2.out⟩
      case measure=>simp [intOf]
    ·have O:=Lib.hid hown;have BB:=Lib.hid hbel;clear hown hbel
     go_wp2
     go_ret;exact ⟨_,rfl,by simpa [lenTo,catTo] using O.out,BB.out⟩
end Go.Proofs.YtcgmgdjeamidlaaGreat.vc
