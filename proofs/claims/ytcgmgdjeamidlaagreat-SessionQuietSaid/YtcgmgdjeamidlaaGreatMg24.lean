/- Texts of one proof, joined. -/
import Derived.Test.YtcgmgdjeamidlaaGreatVcF
import Derived.Test.YtcgmgdjeamidlaaGreatVcSort
namespace Go.Proofs.YtcgmgdjeamidlaaGreat.vc
set_option maxRecDepth 100000
set_option maxHeartbeats 16000000
open Go.RowKit Go.ChangeShapes Go.WideShapes Go.ChangeAt
open Go.Sort (grow)
open Go.Sort Go.Lib Go.Shelf
def encH(x:Int×Int):List Value:=[.int .u64 x.1,.int .i64 x.2]
def cfH(x y:Int×Int):Int:=ordF x.1 x.2 y.1 y.2
theorem ltH(x y:Int×Int):ltOf cfH x y=decide (x.2<y.2∨(x.2=y.2∧x.1<y.1)):=by unfold ltOf cfH;have:=ordF_spec x.1 x.2 y.1 y.2;rw [decide_eq_decide];omega
theorem swoH:Sort.SWO (ltOf cfH) where
 irrefl x:=by rw [ltH,decide_eq_false_iff_not];omega
 trans x y z h1 h2:=by rw [ltH,decide_eq_true_eq] at *;omega
 ntrans x y z h1 h2:=by rw [ltH,decide_eq_false_iff_not] at *;omega
theorem totH(x y:Int×Int)(h1:ltOf cfH x y=false)(h2:ltOf cfH y x=false):x=y:=by rw [ltH,decide_eq_false_iff_not] at *;exact Prod.ext (by omega) (by omega)
def sortH(l:List (Int×Int)):List (Int×Int):=l.mergeSort fun x y=>!(ltOf cfH) y x
theorem sortH_perm(l:List (Int×Int)):(sortH l).Perm l:=List.mergeSort_perm l _
theorem sortH_length(l:List (Int×Int)):(sortH l).length=l.length:=(sortH_perm l).length_eq
theorem alloc3_grow(W:World)(a b c:Obj):(((W.alloc a).alloc b).alloc c).drew=grow (W.drewN 1) #[a,b,c]:=by rw [Sort.alloc_eq_grow,Sort.alloc_eq_grow,Sort.alloc_eq_grow,Sort.grow_grow,Sort.grow_grow];rfl
theorem cmpLaysH(blk off size:Nat)(w:World):CmpLays Tryz.prog 262 #[] encH 2 cfH blk off size w:=
 fun m os dk _ x y=>(order_full x.1 x.2 y.1 y.2 _).mono fun e w' ⟨h1,h2⟩=>⟨h1,1,_,h2.trans (alloc3_grow _ _ _ _)⟩
theorem sort_any(g c:Nat)(xs:List (Int×Int))(w:World)(hH:HoldsK encH 2 w g 0 xs.toArray)(hg:g<w.heap.size)(hsz:xs.length<4611686018427387904) :
  Calls Tryz.prog 261 #[.slice (some ⟨g,0,none⟩) xs.length c,.func (.func 262) #[] #[]] w fun e w'=>e=.returned (.tuple #[])∧HoldsK encH 2 w' g 0 (sortH xs).toArray∧w.heap.size≤w'.heap.size∧w'.os=w.os∧w'.tape=w.tape∧w'.output=w.output∧∀ k,k<w.heap.size→k≠g→w'.heap[k]? = w.heap[k]?:=by
 have eg:∀ args w,(callFunc 262 args).run Tryz.prog w=.ok (.enter 262 args) w:=enters_of Tryz.func262 (by kernel_rfl) rfl;have hcon:=AnyQ.slices_SortFunc_total Tryz.sortHit 2 Tryz.isAgg118 Tryz.sizeOf118 encH (fun _=>rfl) (fun x v hv=>by simp [encH] at hv;rcases hv with rfl|rfl<;>rfl) cfH swoH 262 #[] g 0 c xs.toArray w eg (cmpLaysH g 0 _ w) hH hg (by simpa using hsz) totH;rw [List.size_toArray] at hcon;refine Calls.mono (show Calls Tryz.prog 261 _ _ _ from hcon) ?_;rintro e w' ⟨h1,n,os,hw⟩;change w'=sortWorldK encH 2 w g 0 n (sortH xs).toArray os at hw;subst hw;have hs:(sortH xs).toArray.size=xs.toArray.size:=by simpa using sortH_length xs
 have hh:HoldsK encH 2 (putRowK encH 2 (Sort.ahead w n) g 0 (sortH xs).toArray) g 0 (sortH xs).toArray:=holdsK_putRowK encH 2 (Sort.ahead w n) g 0 xs.toArray _ (holdsK_ahead encH 2 w n g 0 _ hH) hs;have hz:(putRowK encH 2 (Sort.ahead w n) g 0 (sortH xs).toArray).heap.size=w.heap.size:=by simp [putRowK,putRow,mapBlock]
 refine ⟨h1,holdsK_grow encH 2 _ os g 0 _ (by rw [hz];exact hg) hh,?_,rfl,rfl,rfl,fun k hk hne=>?_⟩
 ·show w.heap.size≤(grow _ os).heap.size;rw [size_grow,hz];omega
 ·show (grow _ os).heap[k]? = _;rw [heap_grow_old _ os (by rw [hz];exact hk)];simp only [putRowK,putRow,mapBlock,Sort.ahead,Array.getElem?_modify];rw [if_neg (fun e=>hne e.symm)]
theorem hc_get:∀ {xs:List (Int×Int)} {i:Nat} {x:Int×Int},xs[i]? = some x→(hc xs)[2 * i]? = some (.int .u64 x.1)∧(hc xs)[2 * i+1]? = some (.int .i64 x.2)
 | [],_,_,h=>by simp at h
 | y :: r,0,x,h=>by simp at h;subst h;simp [hc]
 | y :: r,i+1,x,h=>by rw [List.getElem?_cons_succ] at h;have ih:=hc_get h;have e:hc (y :: r)=.int .u64 y.1 :: .int .i64 y.2 :: hc r:=rfl;rw [e,show 2 * (i+1)=2 * i+1+1 by omega];exact ih
theorem flat_hc(xs:List (Int×Int))(t:Nat)(ht:t<xs.length * 2):(hc xs)[t]? = some ((flatK encH 2 xs.toArray)[t]!):=by
 have hi:t / 2<xs.length:=by omega
 have hg:=hc_get (List.getElem?_eq_getElem hi);rw [get_flatK encH 2 xs.toArray t (by simpa using ht)];have e:xs.toArray[t / 2]! = xs[t / 2]:=by simp [hi]
 rw [e];rcases Nat.mod_two_eq_zero_or_one t with h|h
 ·rw [h];have e2:t=2 * (t / 2):=by omega
  have:=hg.1;rw [←e2] at this;simpa [encH] using this
 ·have e1:t % 2=1:=h;rw [e1];have e2:t=2 * (t / 2)+1:=by omega
  have:=hg.2;rw [←e2] at this;simpa [encH] using this
theorem holds_of_own{w:World}{base g cap n:Nat}{e:TypeId}{xs:List (Int×Int)}(h:w.ownsRow base e 2 (.slice (some ⟨g,0,none⟩) n cap) n (hc xs)):HoldsK encH 2 w g 0 xs.toArray:=by
 have hl:=h.1;rw [hc_len] at hl;intro j hj;have hj':j<xs.length * 2:=by simpa [flatK] using hj
 refine ⟨?_,?_⟩
 ·rw [Nat.zero_add,h.cellAt j (by omega)];exact flat_hc xs j hj'
 ·rw [Nat.zero_add];exact h.frozenAt j
theorem src_of_holds{w:World}{g n c m:Nat}{xs:List (Int×Int)}(h:HoldsK encH 2 w g 0 xs.toArray)(hm:m≤xs.length)(hn:n=m):SrcOf w (.slice (some ⟨g,0,none⟩) n c) m 2 (hc (xs.take m)):=by
 subst hn;refine .inr ⟨_,c,rfl,by rw [hc_len,List.length_take,Nat.min_eq_left hm],fun j u hj=>?_⟩;have hlt:j<n * 2:=by have:=(List.getElem?_eq_some_iff.1 hj).1;rw [hc_len,List.length_take,Nat.min_eq_left hm] at this;exact this
 have e:hc (xs.take n)=(hc xs).take (n * 2):=by
  have:hc xs=hc (xs.take n)++hc (xs.drop n):=by rw [←hc_append,List.take_append_drop]
  rw [this];exact (List.take_left' (by rw [hc_len,List.length_take,Nat.min_eq_left hm])).symm
 rw [e,List.getElem?_take,if_pos hlt,flat_hc xs j (by omega)] at hj;have hh:=(h j (by rw [size_flatK];simp;omega)).1;rw [Nat.zero_add] at hh;simp only [Option.some.injEq] at hj;rw [Go.WideShapes.add_plain,Nat.zero_add,hh,←hj];rfl
theorem sort_n(g c n:Nat)(xs:List (Int×Int))(w:World)(hn:xs.length=n)(hH:HoldsK encH 2 w g 0 xs.toArray)(hg:g<w.heap.size)(hsz:n<4611686018427387904) :
  Calls Tryz.prog 261 #[.slice (some ⟨g,0,none⟩) n c,.func (.func 262) #[] #[]] w fun e w'=>e=.returned (.tuple #[])∧HoldsK encH 2 w' g 0 (sortH xs).toArray∧w.heap.size≤w'.heap.size∧w'.os=w.os∧w'.tape=w.tape∧w'.output=w.output∧∀ k,k<w.heap.size→k≠g→w'.heap[k]? = w.heap[k]?:=by
 subst hn;exact sort_any g c xs w hH hg hsz
theorem below_but{B g:Nat}{a w w':World}(h:Below B a w)(hg:B<g)(hs:w.heap.size≤w'.heap.size)(ho:w'.os=w.os)(ht:w'.tape=w.tape)(hou:w'.output=w.output)(hk:∀ k,k<w.heap.size→k≠g→w'.heap[k]? = w.heap[k]?)(hB:B≤w.heap.size:=by omega):Below B a w':=
 h.trans ⟨ho,ht,hou,hs,fun k hlt=>hk k (by omega) (by omega)⟩
theorem own_mono{w:World}{b b':Nat}{e:TypeId}{size:Nat}{v:Value}{n:Nat}{xs:List Value}(h:w.ownsRow b e size v n xs)(hb:b'≤b):w.ownsRow b' e size v n xs:=by
 obtain ⟨h1,h2⟩:=h;refine ⟨h1,?_⟩;rcases h2 with h2|⟨g,cap,cur,hv,hg,r⟩
 ·exact .inl h2
 ·exact .inr ⟨g,cap,cur,hv,by omega,r⟩
def askN(n:Nat)(k:Int):Nat:=min n k.toNat
theorem merge_z(n1 n2:Nat)(xs ys:List (Int×Int))(w:World)(a1 a2:Option Addr)(c1 c2:Nat)(k:Int)(k1 : -9223372036854775808≤k)(k2:k≤9223372036854775807)
  (l1:xs.length=n1) (l2:ys.length=n2) (i1:SrcOf w (.slice a1 n1 c1) n1 2 (hc xs)) (i2:SrcOf w (.slice a2 n2 c2) n2 2 (hc ys)) (hb:(n1+n2) * 16≤140737488355328) (hz:n1+n2=0) :
  Calls Tryz.prog 252 #[.slice a1 n1 c1,.slice a2 n2 c2,.int .i64 k] w fun e w'=>∃ v,e=.returned v∧w'.ownsRow w.heap.size 118 2 v (askN (n1+n2) k) (hc ((sortH (xs++ys)).take (askN (n1+n2) k)))∧Below w.heap.size w w':=by
 have L1:=Lib.hid l1;have L2:=Lib.hid l2;have I1:=Lib.hid i1;have I2:=Lib.hid i2;clear l1 l2 i1 i2;go_enter Tryz.func252,Tryz.ntmps252;go_wp2_with fail;have b0:Below w.heap.size w (w.alloc (.cells #[.slice a1 n1 c1,.slice a2 n2 c2] 39)):=(Below.refl _ _).alloc (Nat.le_refl _) _;refine (concat_any (.slice a1 n1 c1) (.slice a2 n2 c2) _ _ n1 n2 xs ys _ a1 a2 c1 c2 rfl rfl (by simp [go_sem]) (by simp [go_sem]) L1.out L2.out (I1.out.below b0) (I2.out.below b0) hb).mono ?_;rintro e w1 ⟨v1,rfl,hown1,hb1⟩;have l3:(xs++ys).length=n1+n2:=by rw [List.length_append,L1.out,L2.out]
 have B1:=Lib.hid (b0.trans (hb1.mono (by simp)));have z1:=hb1.size;simp only [World.size_alloc] at z1;have hv:∃ p cap,v1=.slice p 0 cap∧(p=none→cap=0):=by
  rcases hown1.2 with ⟨rfl,_⟩|⟨g,cap,cur,rfl,_⟩
  ·exact ⟨none,0,rfl,fun _=>rfl⟩
  ·exact ⟨_,cap,by rw [hz],fun h=>by cases h⟩
 obtain ⟨p,cap,hv,hp⟩:=hv;rw [hv];have hr:(sortH (xs++ys)).take (askN (n1+n2) k)=[]:=by rw [hz];simp [askN]
 have ha:askN (n1+n2) k=0:=by rw [hz];simp [askN]
 have HR:=Lib.hid hr;have HA:=Lib.hid ha;have HS:=Lib.hid (fun p cap W=>(show Calls Tryz.prog 261 _ W _ from AnyF.slices_SortFunc_none Tryz.sortHit p cap (.func (.func 262) #[] #[]) W));clear hown1 hb1 b0 hr ha hz hv l3 hb;go_wp2_with fail;refine (HS.out _ _ _).mono ?_;rintro e w' ⟨rfl,rfl⟩;go_wp2_with fail;rw [show (min 0 (max k 0)).toNat=0 by omega];cases p with
 | none=>
  obtain rfl:=hp rfl;refine (clone_nil _).mono ?_;rintro e w' ⟨rfl,rfl⟩;go_wp2_with fail;go_ret;exact ⟨_,rfl,by rw [HR.out,HA.out];exact World.ownsRow_nil _ _ _ _,B1.out⟩
 | some ad=>
  clear hp;refine (clone_some ad 0 cap [] _ (.inr ⟨ad,cap,rfl,rfl,fun j u hj=>by simp at hj⟩) (by simp) (by omega)).mono ?_;rintro e w2 ⟨v2,rfl,hown2,hb2⟩;have O2:=Lib.hid hown2;have B2:=Lib.hid hb2;clear hown2 hb2;go_wp2_with fail;go_ret;exact ⟨v2,rfl,by rw [HR.out,HA.out];exact own_mono O2.out (by omega),B1.out.trans (B2.out.mono (by omega))⟩
theorem merge_p(n1 n2:Nat)(xs ys:List (Int×Int))(w:World)(a1 a2:Option Addr)(c1 c2:Nat)(k:Int)(k1 : -9223372036854775808≤k)(k2:k≤9223372036854775807)
  (l1:xs.length=n1) (l2:ys.length=n2) (i1:SrcOf w (.slice a1 n1 c1) n1 2 (hc xs)) (i2:SrcOf w (.slice a2 n2 c2) n2 2 (hc ys)) (hb:(n1+n2) * 16≤140737488355328) (hz:0<n1+n2) :
  Calls Tryz.prog 252 #[.slice a1 n1 c1,.slice a2 n2 c2,.int .i64 k] w fun e w'=>∃ v,e=.returned v∧w'.ownsRow w.heap.size 118 2 v (askN (n1+n2) k) (hc ((sortH (xs++ys)).take (askN (n1+n2) k)))∧Below w.heap.size w w':=by
 have L1:=Lib.hid l1;have L2:=Lib.hid l2;have I1:=Lib.hid i1;have I2:=Lib.hid i2;clear l1 l2 i1 i2;go_enter Tryz.func252,Tryz.ntmps252;go_wp2_with fail;have b0:Below w.heap.size w (w.alloc (.cells #[.slice a1 n1 c1,.slice a2 n2 c2] 39)):=(Below.refl _ _).alloc (Nat.le_refl _) _;refine (concat_any (.slice a1 n1 c1) (.slice a2 n2 c2) _ _ n1 n2 xs ys _ a1 a2 c1 c2 rfl rfl (by simp [go_sem]) (by simp [go_sem]) L1.out L2.out (I1.out.below b0) (I2.out.below b0) hb).mono ?_;rintro e w1 ⟨v1,rfl,hown1,hb1⟩;have l3:(xs++ys).length=n1+n2:=by rw [List.length_append,L1.out,L2.out]
 have B1:=Lib.hid (b0.trans (hb1.mono (by simp)));have z1:=hb1.size;simp only [World.size_alloc] at z1;have hv:∃ g cap,v1=.slice (some ⟨g,0,none⟩) (n1+n2) cap∧w.heap.size<g∧g<w1.heap.size∧n1+n2≤cap∧cap≤maxLen:=by
  have hlt:=hown1.lt;rcases hown1.2 with ⟨rfl,h⟩|⟨g,cap,cur,rfl,hg,_,hc,hm,_⟩
  ·omega
  ·simp only [World.size_alloc] at hg;exact ⟨g,cap,rfl,by omega,(hlt g rfl).2,hc,hm⟩
 obtain ⟨g,cap,hv,hg0,hg1,hcap,hmax⟩:=hv;rw [hv] at hown1 ⊢;clear hv;unfold maxLen at hmax;have HS:=Lib.hid (sort_n g cap (n1+n2) (xs++ys) w1 l3 (holds_of_own hown1) hg1 (by omega));have L3:=Lib.hid l3;have hcap1:(n1:Int)+(n2:Int)≤(cap:Int):=by omega
 clear hown1 hb1 b0 l3;go_wp2_with fail;refine HS.out.mono ?_;rintro e w2 ⟨rfl,hh,hsz,ho,htp,hou,hkp⟩;have B2:=Lib.hid (below_but B1.out hg0 hsz ho htp hou hkp);have HH:=Lib.hid hh;clear hh hsz ho htp hou hkp HS;go_wp2_with fail;rw [show (min ((n1:Int)+(n2:Int)) (max k 0)).toNat=askN (n1+n2) k by unfold askN;omega];have hask:askN (n1+n2) k≤n1+n2:=by unfold askN;omega
 refine (clone_some _ (askN (n1+n2) k) cap _ _ (src_of_holds HH.out (by rw [sortH_length,L3.out];omega) rfl) (hc_one _) (by omega)).mono ?_;rintro e w3 ⟨v2,rfl,hown2,hb2⟩;have O2:=Lib.hid hown2;have B3:=Lib.hid hb2;clear hown2 hb2;go_wp2_with fail;go_ret;exact ⟨v2,rfl,own_mono O2.out B2.out.size,B2.out.trans (B3.out.mono B2.out.size)⟩
theorem merge_any(n1 n2:Nat)(xs ys:List (Int×Int))(w:World)(a1 a2:Option Addr)(c1 c2:Nat)(k:Int)(k1 : -9223372036854775808≤k)(k2:k≤9223372036854775807)
  (l1:xs.length=n1) (l2:ys.length=n2) (i1:SrcOf w (.slice a1 n1 c1) n1 2 (hc xs)) (i2:SrcOf w (.slice a2 n2 c2) n2 2 (hc ys)) (hb:(n1+n2) * 16≤140737488355328)  :
  Calls Tryz.prog 252 #[.slice a1 n1 c1,.slice a2 n2 c2,.int .i64 k] w fun e w'=>∃ v,e=.returned v∧w'.ownsRow w.heap.size 118 2 v (askN (n1+n2) k) (hc ((sortH (xs++ys)).take (askN (n1+n2) k)))∧Below w.heap.size w w':=by
 by_cases hz:n1+n2=0
 ·exact merge_z n1 n2 xs ys w a1 a2 c1 c2 k k1 k2 l1 l2 i1 i2 hb hz
 ·exact merge_p n1 n2 xs ys w a1 a2 c1 c2 k k1 k2 l1 l2 i1 i2 hb (by omega)
end Go.Proofs.YtcgmgdjeamidlaaGreat.vc
namespace Go.Proofs.YtcgmgdjeamidlaaGreat.vc
set_option maxRecDepth 100000
set_option maxHeartbeats 16000000
open Go.RowKit Go.ChangeShapes Go.WideShapes Go.ChangeAt
def HitsAt(w:World)(v:Value)(xs:List (Int×Int)):Prop:=
 (xs=[]∧∃ a c,v=.slice a 0 c) ∨
 ∃ b off cap,v=.slice (some ⟨b,off,none⟩) xs.length cap∧∀ i,i<xs.length→w.cell? ⟨b,off+i * 2,none⟩=some (.int .u64 (xs[i]?.getD (0,0)).1)∧w.cell? ⟨b,off+i * 2+1,none⟩=some (.int .i64 (xs[i]?.getD (0,0)).2)
theorem hits_of_own{w:World}{base:Nat}{e:TypeId}{v:Value}{n:Nat}{xs:List (Int×Int)}(h:w.ownsRow base e 2 v n (hc xs)):HitsAt w v xs:=by
 have hl:=h.1;rw [hc_len] at hl;have hn:xs.length=n:=by omega
 rcases h.2 with ⟨rfl,h0⟩|⟨g,cap,cur,rfl,_⟩
 ·exact .inl ⟨List.length_eq_zero_iff.1 (by omega),_,_,rfl⟩
 ·refine .inr ⟨g,0,cap,by rw [hn],fun i hi=>?_⟩;have hg:=hc_get (List.getElem?_eq_getElem hi);rw [List.getElem?_eq_getElem hi];refine ⟨?_,?_⟩
  ·rw [Nat.zero_add,h.cellAt (i * 2) (by omega),Nat.mul_comm];exact hg.1
  ·rw [Nat.zero_add,h.cellAt (i * 2+1) (by omega),Nat.mul_comm];exact hg.2
/-! ### the order's plain facts -/
end Go.Proofs.YtcgmgdjeamidlaaGreat.vc
