/- Texts of one proof, joined. -/
import Derived.Test.YtcgmgdjeamidlaaGreatMg28
import Derived.Deep.RegionWith
import Derived.Deep.CutRange
import Derived.BigQuiet
namespace Go.Proofs.YtcgmgdjeamidlaaGreat
set_option maxRecDepth 100000
set_option maxHeartbeats 16000000
open Go.RowKit Go.ChangeShapes Go.WideShapes Go.ChangeAt Go.Proofs.Tryz
set_option linter.unusedVariables false
set_option linter.unusedSimpArgs false
abbrev Ck(w:World)(r g5:Nat)(cs:Array Value)(x:List Int)(e:Int)(y:World):Prop:=RdrAt y r x e∧Only [r,g5] w y∧Row y g5 cs tRq∧r<g5
section
variable {w y z:World} {r g5 c4:Nat} {cs:Array Value} {x x':List Int} {e e':Int}
theorem Ck.mk0(h:RdrAt w r x e)(hg:Row w g5 cs tRq)(h1:r<c4)(h2:c4<g5):Ck w r g5 cs x e w:=⟨h,Ω _ _,hg,by omega⟩
theorem Ck.drew(h:Ck w r g5 cs x e y):Ck w r g5 cs x e y.drew:=⟨h.1.below (Δ _ _).drew,h.2.1.drew,h.2.2.1.only (Ω [] y).drew (by simp),h.2.2.2⟩
theorem Ck.rd(h:Ck w r g5 cs x e y)(hr:RdrAt z r x' e')(ho:Only [r] y z):Ck w r g5 cs x' e' z:=⟨hr,h.2.1.trans (ho.mono (by simp)) (fun b hb=>.inl hb),h.2.2.1.only ho (by have:=h.2.2.2;simp;omega),h.2.2.2⟩
theorem Ck.st(h:Ck w r g5 cs x e y)(j:Nat)(v:Value):Ck w r g5 (cs.setIfInBounds j v) x e (y.setCell ⟨g5,j,none⟩ v):=⟨h.1.behind ((Ω [g5] _).setCell (.inl (by simp)) _) (by simp;exact h.2.2.2),h.2.1.setCell (.inl (by simp)) _,h.2.2.1.set j v,h.2.2.2⟩
end
theorem fixF_by(k:Nat){xs:List Int}(h:IsBy xs)(e:Int):IsBy (fixF k xs e).2.1:=by
 unfold fixF;split
 ·exact h
 ·split
  ·exact h
  ·exact h.drop _
theorem RdrAt.len{w:World}{r:Nat}{xs:List Int}{e:Int}(h:RdrAt w r xs e):xs.length≤1000000:=by obtain ⟨s,e1,_,h2,_⟩:=h.at_;rw [←e1];exact h2.le
theorem nums_range(n k:Nat)(xs:List Int)(hb:IsBy xs):∀ z∈nums n k xs,0≤z∧z<256 ^ n:=fun z hz=>by obtain ⟨i,_,rfl⟩:=List.mem_map.1 hz;have h:=leV_lt ((xs.drop (n * i)).take n) ((hb.drop _).take _);refine ⟨h.1,Int.lt_of_lt_of_le h.2 ?_⟩;have h2:((256 ^ ((xs.drop (n * i)).take n).length:Nat):Int)≤((256 ^ n:Nat):Int):=Int.ofNat_le.2 (Nat.pow_le_pow_right (by omega) (by rw [List.length_take];omega));simpa using h2
theorem lstF_ok(size:Nat)(xs:List Int)(e:Int)(hb:IsBy xs):(∀ z∈(lstF size xs e).1,0≤z∧z<256 ^ size)∧(lstF size xs e).1.length≤4096:=by
 unfold lstF;split
 ·exact ⟨fun z hz=>by simp at hz,by simp⟩
 ·rename_i h
  exact ⟨nums_range _ _ _ (uvF_by hb e),by rw [nums_len];omega⟩
theorem lstF_by(size:Nat){xs:List Int}(hb:IsBy xs)(e:Int):IsBy (lstF size xs e).2.1:=by
 unfold lstF;split
 ·exact uvF_by hb e
 ·exact (uvF_by hb e).drop _
theorem i32_range{u:Int}(h0:0≤u)(h1:u<4294967296) : -2147483648≤i32 u∧i32 u<2147483648:=by unfold i32;split<;>omega
theorem lst32_range(xs:List Int)(e:Int)(hb:IsBy xs):(∀ z∈(lstF 4 xs e).1.map i32,-2147483648≤z∧z<2147483648)∧((lstF 4 xs e).1.map i32).length≤4096:=by obtain ⟨h1,h2⟩:=lstF_ok 4 xs e hb;refine ⟨fun z hz=>?_,by rw [List.length_map];exact h2⟩;obtain ⟨u,hu,rfl⟩:=List.mem_map.1 hz;have:=h1 u hu;exact i32_range this.1 (by omega)
theorem lst64_range(xs:List Int)(e:Int)(hb:IsBy xs):(∀ z∈(lstF 8 xs e).1.map (fun x=>x),0≤z∧z<18446744073709551616)∧((lstF 8 xs e).1.map (fun x=>x)).length≤4096:=by obtain ⟨h1,h2⟩:=lstF_ok 8 xs e hb;rw [List.map_id'];exact ⟨fun z hz=>by have:=h1 z hz;omega,h2⟩
theorem txtF_ok(most:Nat)(xs:List Int)(e:Int)(hb:IsBy xs):IsBy (txtF most xs e).1∧(txtF most xs e).1.length≤most:=by
 unfold txtF;split
 ·exact ⟨IsBy.nil,by simp⟩
 ·split
  ·split
   ·exact ⟨IsBy.nil,by simp⟩
   ·split
    ·exact ⟨IsBy.nil,by simp⟩
    ·exact ⟨(hb.drop _).take _,by simp only [List.length_take];omega⟩
  ·exact ⟨IsBy.nil,by simp⟩
theorem wrap_i8{n:Int}(h0:0≤n)(h1:n<256):IntKind.i8.wrap n=i8 n:=by unfold i8;show (if (true && decide (n % 256≥128))=true then n % 256-256 else n % 256)=_;rw [show n % 256=n by omega];simp only [Bool.true_and,decide_eq_true_eq];split<;>split<;>omega
inductive Rq.Shape (w:World):Rq→Prop
 | bare (k:Int) (h0:0≤k) (h1:k<256) (h:k=0∨k=1∨(7≤k∧k≤9)∨11<k):Rq.Shape w (Rq.bare k)
 | put (key:Int) (vec tag:Sl) (k0:0≤key) (k1:key<18446744073709551616) (hv:SlRd .i32 w vec) (vr:∀ z∈vec.xs,-2147483648≤z∧z<2147483648) (ht:SlRd .u8 w tag) (hb:IsBy tag.xs) (h:(0<vec.xs.length∧vec.xs.length≤4096∧tag.xs.length≤1024)∨(vec.xs.length=0∧tag.xs.length≤1024)):Rq.Shape w ⟨2,⟨key,vec,tag⟩,0,0,0,Sl.no,Sl.no,0⟩
 | key (k key:Int) (h:k=3∨k=4) (k0:0≤key) (k1:key<18446744073709551616):Rq.Shape w ⟨k,Rc3.no,key,0,0,Sl.no,Sl.no,0⟩
 | range (key hi n:Int) (k0:0≤key) (k1:key<18446744073709551616) (h0:0≤hi) (h1:hi<18446744073709551616) (n0:0≤n) (n1:n<256):Rq.Shape w ⟨5,Rc3.no,key,hi,n,Sl.no,Sl.no,0⟩
 | knn (n:Int) (q:Sl) (n0:0≤n) (n1:n<256) (hq:SlRd .i32 w q) (qr:∀ z∈q.xs,-2147483648≤z∧z<2147483648) (q4:q.xs.length≤4096):Rq.Shape w ⟨6,Rc3.no,0,0,n,q,Sl.no,0⟩
 | putf (key sc:Int) (tag fl:Sl) (k0:0≤key) (k1:key<18446744073709551616) (s0 : -128≤sc) (s1:sc<128) (ht:SlRd .u8 w tag) (hb:IsBy tag.xs) (t1:tag.xs.length≤1024) (hf:SlRd .u64 w fl) (fr:∀ z∈fl.xs,0≤z∧z<18446744073709551616) (f4:fl.xs.length≤4096):Rq.Shape w ⟨10,⟨key,Sl.no,tag⟩,0,0,0,Sl.no,fl,sc⟩
 | knnf (n sc:Int) (fl:Sl) (n0:0≤n) (n1:n<256) (s0 : -128≤sc) (s1:sc<128) (hf:SlRd .u64 w fl) (fr:∀ z∈fl.xs,0≤z∧z<18446744073709551616) (f4:fl.xs.length≤4096):Rq.Shape w ⟨11,Rc3.no,0,0,n,Sl.no,fl,sc⟩
def CloTo(r g5:Nat)(c:Qc)(w:World)(z:Ending)(w':World):Prop:=∃ x:Rq,z=.returned (.tuple #[])∧Row w' g5 x.cells tRq∧x.Shape w'∧x.c=c∧Only [r,g5] w w'∧∀ b∈x.it.vec.bs++x.it.tag.bs++x.q.bs++x.fl.bs,w.heap.size≤b
theorem clo_key2{r c4 g5:Nat}{xs:List Int}{e:Int}{w:World}(h:RdrAt w r xs e)(hb:IsBy xs)(hc:w.cell? ⟨c4,0,none⟩=some (.pointer (some ⟨r,0,none⟩)))(hg:Row w g5 (bareCells 3) tRq)(h1:r<c4)(h2:c4<g5) :
  Calls prog 130 #[.pointer (some ⟨c4,0,none⟩),.pointer (some ⟨g5,0,none⟩)] w (CloTo r g5 { Qc.bare 3 with key:=(fixF 8 xs e).1 } w):=by
 unfold bareCells at hg;obtain ⟨v1,x1,e1,hq1⟩:∃ v x ee,fixF 8 xs e=(v,x,ee):=⟨_,_,_,rfl⟩;have V1:Hid (0≤v1∧v1<18446744073709551616):=Ξ (by have h:=fixF_range 8 xs e hb;rw [hq1] at h;exact ⟨h.1,by have:=h.2;omega⟩);have hb1:IsBy x1:=by have h:=fixF_by 8 hb e;rw [hq1] at h;exact h
 have C1:Hid (∀ y,RdrAt y r xs e→Calls prog 108 #[.pointer (some ⟨r,0,none⟩)] y fun z w'=>z=.returned (.int .u64 v1)∧RdrAt w' r x1 e1∧Only [r] y w'):=Ξ fun y hy=>by
  have h:=rdU64 hy hb
  rwa [hq1] at h
 simp only [hq1];have GR:Hid (c4≠g5∧r≠g5∧c4≠r∧r<g5):=Ξ ⟨by omega,by omega,by omega,by omega⟩;have S0:Hid (∀ y,Only [r,g5] w y→y.cell? ⟨c4,0,none⟩=some (.pointer (some ⟨r,0,none⟩))):=Ξ fun y k=>by rw [k.cell (World.block_lt_of_cell? w ⟨c4,0,none⟩ hc) (by simp;omega)];exact hc
 have CK0:=Ξ (Ck.mk0 h hg h1 h2);have s0:=S0.out w (Ω _ _);clear h hb hc hg h1 h2 hb1 hq1;go_enter func130,ntmps130;go_wp2_with fail
 (with_reducible refine (C1.out _ CK0.out.1).mono ?_);rintro _ z1 ⟨rfl,hr,ho⟩;have Z1:=Ξ (CK0.out.rd hr ho);clear hr ho C1;have fr4:=Z1.out.2.2.1.free 4;have l4:=Z1.out.2.2.1.c 4 (.int .u64 0)
 go_wp2_with fail;refine bodyPost_ret (results_none rfl _ _ _) rfl ?_;have V1:=V1.out;exact ⟨⟨3,Rc3.no,v1,0,0,Sl.no,Sl.no,0⟩,rfl,by simpa [Rq.cells,Rc3.no,Sl.v,Sl.no] using (Z1.out.2.2.1.set 4 (.int .u64 v1)),Rq.Shape.key 3 v1 (.inl rfl) V1.1 V1.2,rfl,(Z1.out.2.1.setCell (.inl (by simp)) _),by simp [Rc3.no,Sl.no,Sl.bs]⟩
theorem clo_key3{r c4 g5:Nat}{xs:List Int}{e:Int}{w:World}(h:RdrAt w r xs e)(hb:IsBy xs)(hc:w.cell? ⟨c4,0,none⟩=some (.pointer (some ⟨r,0,none⟩)))(hg:Row w g5 (bareCells 4) tRq)(h1:r<c4)(h2:c4<g5) :
  Calls prog 131 #[.pointer (some ⟨c4,0,none⟩),.pointer (some ⟨g5,0,none⟩)] w (CloTo r g5 { Qc.bare 4 with key:=(fixF 8 xs e).1 } w):=by
 unfold bareCells at hg;obtain ⟨v1,x1,e1,hq1⟩:∃ v x ee,fixF 8 xs e=(v,x,ee):=⟨_,_,_,rfl⟩;have V1:Hid (0≤v1∧v1<18446744073709551616):=Ξ (by have h:=fixF_range 8 xs e hb;rw [hq1] at h;exact ⟨h.1,by have:=h.2;omega⟩);have hb1:IsBy x1:=by have h:=fixF_by 8 hb e;rw [hq1] at h;exact h
 have C1:Hid (∀ y,RdrAt y r xs e→Calls prog 108 #[.pointer (some ⟨r,0,none⟩)] y fun z w'=>z=.returned (.int .u64 v1)∧RdrAt w' r x1 e1∧Only [r] y w'):=Ξ fun y hy=>by
  have h:=rdU64 hy hb
  rwa [hq1] at h
 simp only [hq1];have GR:Hid (c4≠g5∧r≠g5∧c4≠r∧r<g5):=Ξ ⟨by omega,by omega,by omega,by omega⟩;have S0:Hid (∀ y,Only [r,g5] w y→y.cell? ⟨c4,0,none⟩=some (.pointer (some ⟨r,0,none⟩))):=Ξ fun y k=>by rw [k.cell (World.block_lt_of_cell? w ⟨c4,0,none⟩ hc) (by simp;omega)];exact hc
 have CK0:=Ξ (Ck.mk0 h hg h1 h2);have s0:=S0.out w (Ω _ _);clear h hb hc hg h1 h2 hb1 hq1;go_enter func131,ntmps131;go_wp2_with fail
 (with_reducible refine (C1.out _ CK0.out.1).mono ?_);rintro _ z1 ⟨rfl,hr,ho⟩;have Z1:=Ξ (CK0.out.rd hr ho);clear hr ho C1;have fr4:=Z1.out.2.2.1.free 4;have l4:=Z1.out.2.2.1.c 4 (.int .u64 0)
 go_wp2_with fail;refine bodyPost_ret (results_none rfl _ _ _) rfl ?_;have V1:=V1.out;exact ⟨⟨4,Rc3.no,v1,0,0,Sl.no,Sl.no,0⟩,rfl,by simpa [Rq.cells,Rc3.no,Sl.v,Sl.no] using (Z1.out.2.2.1.set 4 (.int .u64 v1)),Rq.Shape.key 4 v1 (.inr rfl) V1.1 V1.2,rfl,(Z1.out.2.1.setCell (.inl (by simp)) _),by simp [Rc3.no,Sl.no,Sl.bs]⟩
theorem clo_range{r c4 g5:Nat}{xs:List Int}{e:Int}{w:World}(h:RdrAt w r xs e)(hb:IsBy xs)(hc:w.cell? ⟨c4,0,none⟩=some (.pointer (some ⟨r,0,none⟩)))(hg:Row w g5 (bareCells 5) tRq)(h1:r<c4)(h2:c4<g5) :
  Calls prog 132 #[.pointer (some ⟨c4,0,none⟩),.pointer (some ⟨g5,0,none⟩)] w (CloTo r g5 { Qc.bare 5 with key:=(fixF 8 xs e).1,hi:=(fixF 8 (fixF 8 xs e).2.1 (fixF 8 xs e).2.2).1,n:=(fixF 1 (fixF 8 (fixF 8 xs e).2.1 (fixF 8 xs e).2.2).2.1 (fixF 8 (fixF 8 xs e).2.1 (fixF 8 xs e).2.2).2.2).1 } w):=by
 unfold bareCells at hg;obtain ⟨v1,x1,e1,hq1⟩:∃ v x ee,fixF 8 xs e=(v,x,ee):=⟨_,_,_,rfl⟩;have V1:Hid (0≤v1∧v1<18446744073709551616):=Ξ (by have h:=fixF_range 8 xs e hb;rw [hq1] at h;exact ⟨h.1,by have:=h.2;omega⟩);have hb1:IsBy x1:=by have h:=fixF_by 8 hb e;rw [hq1] at h;exact h
 have C1:Hid (∀ y,RdrAt y r xs e→Calls prog 108 #[.pointer (some ⟨r,0,none⟩)] y fun z w'=>z=.returned (.int .u64 v1)∧RdrAt w' r x1 e1∧Only [r] y w'):=Ξ fun y hy=>by
  have h:=rdU64 hy hb
  rwa [hq1] at h
 obtain ⟨v2,x2,e2,hq2⟩:∃ v x ee,fixF 8 x1 e1=(v,x,ee):=⟨_,_,_,rfl⟩;have V2:Hid (0≤v2∧v2<18446744073709551616):=Ξ (by have h:=fixF_range 8 x1 e1 hb1;rw [hq2] at h;exact ⟨h.1,by have:=h.2;omega⟩);have hb2:IsBy x2:=by have h:=fixF_by 8 hb1 e1;rw [hq2] at h;exact h
 have C2:Hid (∀ y,RdrAt y r x1 e1→Calls prog 108 #[.pointer (some ⟨r,0,none⟩)] y fun z w'=>z=.returned (.int .u64 v2)∧RdrAt w' r x2 e2∧Only [r] y w'):=Ξ fun y hy=>by
  have h:=rdU64 hy hb1
  rwa [hq2] at h
 obtain ⟨v3,x3,e3,hq3⟩:∃ v x ee,fixF 1 x2 e2=(v,x,ee):=⟨_,_,_,rfl⟩;have V3:Hid (0≤v3∧v3<256):=Ξ (by have h:=fixF_range 1 x2 e2 hb2;rw [hq3] at h;exact ⟨h.1,by have:=h.2;omega⟩);have hb3:IsBy x3:=by have h:=fixF_by 1 hb2 e2;rw [hq3] at h;exact h
 have C3:Hid (∀ y,RdrAt y r x2 e2→Calls prog 100 #[.pointer (some ⟨r,0,none⟩)] y fun z w'=>z=.returned (.int .u8 v3)∧RdrAt w' r x3 e3∧Only [r] y w'):=Ξ fun y hy=>by
  have h:=rdU8 hy hb2
  rwa [hq3] at h
 have wv3:IntKind.i64.wrap v3=v3:=IntWalk.i64_in _ (by have:=V3.out;omega);simp only [hq1,hq2,hq3];have GR:Hid (c4≠g5∧r≠g5∧c4≠r∧r<g5):=Ξ ⟨by omega,by omega,by omega,by omega⟩;have S0:Hid (∀ y,Only [r,g5] w y→y.cell? ⟨c4,0,none⟩=some (.pointer (some ⟨r,0,none⟩))):=Ξ fun y k=>by rw [k.cell (World.block_lt_of_cell? w ⟨c4,0,none⟩ hc) (by simp;omega)];exact hc
 have CK0:=Ξ (Ck.mk0 h hg h1 h2);clear h hb hc hg h1 h2 hb1 hq1 hb2 hq2 hb3 hq3;go_enter func132,ntmps132;go_upto_region 0 with fail;go_region_held3 (fun y=>y.cell? ⟨c4,0,none⟩=some (.pointer (some ⟨r,0,none⟩)))
  (first
   | exact S0.out _ (((Z3.out.2.1.setCell (.inl (by simp)) _).setCell (.inl (by simp)) _).setCell (.inl (by simp)) _)
   | exact S0.out _ ((Z3.out.2.1.setCell (.inl (by simp)) _).setCell (.inl (by simp)) _)
   | exact S0.out _ (Z3.out.2.1.setCell (.inl (by simp)) _)
   | exact S0.out _ Z3.out.2.1
   | exact S0.out _ Z2.out.2.1
   | exact S0.out _ Z1.out.2.1
   | exact S0.out _ (Ω _ w).drew)
  (first
   | ((with_reducible refine (C1.out _ CK0.out.drew.1).mono ?_);rintro _ z1 ⟨rfl,hr,ho⟩;have Z1:=Ξ (CK0.out.drew.rd hr ho);clear hr ho C1)
   | ((with_reducible refine (C2.out _ Z1.out.1).mono ?_);rintro _ z2 ⟨rfl,hr,ho⟩;have Z2:=Ξ (Z1.out.rd hr ho);clear hr ho C2)
   | ((with_reducible refine (C3.out _ Z2.out.1).mono ?_);rintro _ z3 ⟨rfl,hr,ho⟩;have Z3:=Ξ (Z2.out.rd hr ho);clear hr ho C3;have fr4:=Z3.out.2.2.1.free 4;have l4:=Z3.out.2.2.1.c 4 (.int .u64 0);have fr5:=Z3.out.2.2.1.free 5;have l5:=Z3.out.2.2.1.c 5 (.int .u64 0);have fr6:=Z3.out.2.2.1.free 6;have l6:z3.cell? ⟨g5,6,none⟩=some (.int .i64 0):=Z3.out.2.2.1.cell 6)
   | fail)
 all_goals
  go_wp2_with fail;refine bodyPost_ret (results_none rfl _ _ _) rfl ?_;have V1:=V1.out;have V2:=V2.out;have V3:=V3.out;exact ⟨⟨5,Rc3.no,v1,v2,v3,Sl.no,Sl.no,0⟩,rfl,by simpa [Rq.cells,Rc3.no,Sl.v,Sl.no] using (((Z3.out.2.2.1.set 4 (.int .u64 v1)).set 5 (.int .u64 v2)).set 6 (.int .i64 v3)),Rq.Shape.range v1 v2 v3 V1.1 V1.2 V2.1 V2.2 V3.1 V3.2,rfl,(((Z3.out.2.1.setCell (.inl (by simp)) _).setCell (.inl (by simp)) _).setCell (.inl (by simp)) _),by simp [Rc3.no,Sl.no,Sl.bs]⟩
theorem clo_knn{r c4 g5:Nat}{xs:List Int}{e:Int}{w:World}(h:RdrAt w r xs e)(hb:IsBy xs)(hc:w.cell? ⟨c4,0,none⟩=some (.pointer (some ⟨r,0,none⟩)))(hg:Row w g5 (bareCells 6) tRq)(h1:r<c4)(h2:c4<g5) :
  Calls prog 133 #[.pointer (some ⟨c4,0,none⟩),.pointer (some ⟨g5,0,none⟩)] w (CloTo r g5 { Qc.bare 6 with n:=(fixF 1 xs e).1,q:=(lstF 4 (fixF 1 xs e).2.1 (fixF 1 xs e).2.2).1.map i32 } w):=by
 unfold bareCells at hg;obtain ⟨v1,x1,e1,hq1⟩:∃ v x ee,fixF 1 xs e=(v,x,ee):=⟨_,_,_,rfl⟩;have V1:Hid (0≤v1∧v1<256):=Ξ (by have h:=fixF_range 1 xs e hb;rw [hq1] at h;exact ⟨h.1,by have:=h.2;omega⟩);have hb1:IsBy x1:=by have h:=fixF_by 1 hb e;rw [hq1] at h;exact h
 have C1:Hid (∀ y,RdrAt y r xs e→Calls prog 100 #[.pointer (some ⟨r,0,none⟩)] y fun z w'=>z=.returned (.int .u8 v1)∧RdrAt w' r x1 e1∧Only [r] y w'):=Ξ fun y hy=>by
  have h:=rdU8 hy hb
  rwa [hq1] at h
 have wv1:IntKind.i64.wrap v1=v1:=IntWalk.i64_in _ (by have:=V1.out;omega);obtain ⟨l2,x2,e2,hq2⟩:∃ v x ee,lstF 4 x1 e1=(v,x,ee):=⟨_,_,_,rfl⟩;have hb2:IsBy x2:=by have h:=lstF_by 4 hb1 e1;rw [hq2] at h;exact h
 obtain ⟨m2,hm2⟩:∃ m,l2.map i32=m:=⟨_,rfl⟩;have M2:Hid ((∀ z∈m2,-2147483648≤z∧z<2147483648)∧m2.length≤4096):=Ξ (by have h:=lst32_range x1 e1 hb1;rw [hq2] at h;rw [←hm2];exact h);have C2:Hid (∀ y,RdrAt y r x1 e1→y.cell? ⟨c4,0,none⟩=some (.pointer (some ⟨r,0,none⟩))→Calls prog 134 #[.pointer (some ⟨r,0,none⟩),.int .i64 4,.int .i64 4096,.func (.func 135) #[] #[.pointer (some ⟨c4,0,none⟩)]] y fun z w'=>∃ a n c,z=.returned (.slice a n c)∧SlRd .i32 w' ⟨a,c,m2⟩∧m2.length=n∧(∀ b∈(Sl.mk a c m2).bs,y.heap.size≤b)∧RdrAt w' r x2 e2∧Only [r] y w'):=Ξ fun y hy hcy=>by
  have h:=list32_on (cr:=c4) hy hb1 hy.len hcy (by omega);unfold list32To at h
  rwa [hq2,hm2] at h
 have HM2:=Ξ hm2;simp only [hq1,hq2];have GR:Hid (c4≠g5∧r≠g5∧c4≠r∧r<g5):=Ξ ⟨by omega,by omega,by omega,by omega⟩;have S0:Hid (∀ y,Only [r,g5] w y→y.cell? ⟨c4,0,none⟩=some (.pointer (some ⟨r,0,none⟩))):=Ξ fun y k=>by rw [k.cell (World.block_lt_of_cell? w ⟨c4,0,none⟩ hc) (by simp;omega)];exact hc
 have CK0:=Ξ (Ck.mk0 h hg h1 h2);have s0:=S0.out w (Ω _ _);clear h hb hc hg h1 h2 hb1 hq1  hq2 hm2 hb2;go_enter func133,ntmps133;go_wp2_with fail
 (with_reducible refine (C1.out _ CK0.out.1).mono ?_);rintro _ z1 ⟨rfl,hr,ho⟩;have Z1:=Ξ (CK0.out.rd hr ho);clear hr ho C1;have fr6:=Z1.out.2.2.1.free 6;have l6:=Z1.out.2.2.1.c 6 (.int .i64 0);have KA:=Ξ (Z1.out.st 6 (.int .i64 v1));have sA:=S0.out _ KA.out.2.1
 go_wp2_with fail;refine (C2.out _ KA.out.1 (S0.out _ KA.out.2.1)).mono ?_;rintro _ y2 ⟨a2,n2,k2,rfl,hs,hn,hbs,hr,ho⟩;have K2:=Ξ (KA.out.rd hr ho);have SB2:Hid (SlRd .i32 y2 ⟨a2,k2,m2⟩∧m2.length=n2∧∀ b∈(Sl.mk a2 k2 m2).bs,g5<b∧w.heap.size≤b):=Ξ ⟨hs,hn,fun b hb=>⟨Nat.lt_of_lt_of_le KA.out.2.2.1.lt (hbs b hb),Nat.le_trans KA.out.2.1.size (hbs b hb)⟩⟩;have fr7:=K2.out.2.2.1.free 7;have l7:=K2.out.2.2.1.c 7 (.slice none 0 0);clear hs hn hbs hr ho C2;go_wp2_with fail;refine bodyPost_ret (results_none rfl _ _ _) rfl ?_;have V1:=V1.out;have SLR2:=SB2.out.1.only ((Ω [g5] y2).setCell (p:=⟨g5,7,none⟩) (.inl (by simp)) (.slice a2 n2 k2)) (fun _ b hb=>by have:=SB2.out.2.2 b hb;simp;omega);exact ⟨⟨6,Rc3.no,0,0,v1,⟨a2,k2,m2⟩,Sl.no,0⟩,rfl,by simpa [Rq.cells,Rc3.no,Sl.v,Sl.no,SB2.out.2.1] using K2.out.2.2.1.set 7 (.slice a2 n2 k2),Rq.Shape.knn v1 ⟨a2,k2,m2⟩ V1.1 V1.2 SLR2 M2.out.1 M2.out.2,by simp only [Rq.c,Qc.bare,Rc3.no,Sl.no,←HM2.out,List.map_id'],K2.out.2.1.setCell (.inl (by simp)) _,fun b hb=>by simp only [List.mem_append] at hb;rcases hb with ((hb|hb)|hb)|hb<;>first|(simp [Rc3.no,Sl.no,Sl.bs] at hb;done)|exact (SB2.out.2.2 b hb).2⟩
theorem clo_knnf{r c4 g5:Nat}{xs:List Int}{e:Int}{w:World}(h:RdrAt w r xs e)(hb:IsBy xs)(hc:w.cell? ⟨c4,0,none⟩=some (.pointer (some ⟨r,0,none⟩)))(hg:Row w g5 (bareCells 11) tRq)(h1:r<c4)(h2:c4<g5) :
  Calls prog 139 #[.pointer (some ⟨c4,0,none⟩),.pointer (some ⟨g5,0,none⟩)] w (CloTo r g5 { Qc.bare 11 with n:=(fixF 1 xs e).1,sc:=i8 (fixF 1 (fixF 1 xs e).2.1 (fixF 1 xs e).2.2).1,fl:=(lstF 8 (fixF 1 (fixF 1 xs e).2.1 (fixF 1 xs e).2.2).2.1 (fixF 1 (fixF 1 xs e).2.1 (fixF 1 xs e).2.2).2.2).1 } w):=by
 unfold bareCells at hg;obtain ⟨v1,x1,e1,hq1⟩:∃ v x ee,fixF 1 xs e=(v,x,ee):=⟨_,_,_,rfl⟩;have V1:Hid (0≤v1∧v1<256):=Ξ (by have h:=fixF_range 1 xs e hb;rw [hq1] at h;exact ⟨h.1,by have:=h.2;omega⟩);have hb1:IsBy x1:=by have h:=fixF_by 1 hb e;rw [hq1] at h;exact h
 have C1:Hid (∀ y,RdrAt y r xs e→Calls prog 100 #[.pointer (some ⟨r,0,none⟩)] y fun z w'=>z=.returned (.int .u8 v1)∧RdrAt w' r x1 e1∧Only [r] y w'):=Ξ fun y hy=>by
  have h:=rdU8 hy hb
  rwa [hq1] at h
 have wv1:IntKind.i64.wrap v1=v1:=IntWalk.i64_in _ (by have:=V1.out;omega);obtain ⟨v2,x2,e2,hq2⟩:∃ v x ee,fixF 1 x1 e1=(v,x,ee):=⟨_,_,_,rfl⟩;have V2:Hid (0≤v2∧v2<256):=Ξ (by have h:=fixF_range 1 x1 e1 hb1;rw [hq2] at h;exact ⟨h.1,by have:=h.2;omega⟩);have hb2:IsBy x2:=by have h:=fixF_by 1 hb1 e1;rw [hq2] at h;exact h
 have C2:Hid (∀ y,RdrAt y r x1 e1→Calls prog 100 #[.pointer (some ⟨r,0,none⟩)] y fun z w'=>z=.returned (.int .u8 v2)∧RdrAt w' r x2 e2∧Only [r] y w'):=Ξ fun y hy=>by
  have h:=rdU8 hy hb1
  rwa [hq2] at h
 have wa2:IntKind.i8.wrap v2=i8 v2:=wrap_i8 V2.out.1 V2.out.2;have U2:Hid (-128≤i8 v2∧i8 v2<128):=Ξ (by have:=V2.out;unfold i8;split<;>omega);obtain ⟨u2,hu2⟩:∃ u,i8 v2=u:=⟨_,rfl⟩;rw [hu2] at wa2 U2;have wb2:IntKind.i64.wrap u2=u2:=IntWalk.i64_in _ (by have:=U2.out;omega);have HU2:=Ξ hu2;obtain ⟨l3,x3,e3,hq3⟩:∃ v x ee,lstF 8 x2 e2=(v,x,ee):=⟨_,_,_,rfl⟩;have hb3:IsBy x3:=by have h:=lstF_by 8 hb2 e2;rw [hq3] at h;exact h
 obtain ⟨m3,hm3⟩:∃ m,l3.map (fun x=>x)=m:=⟨_,rfl⟩;have M3:Hid ((∀ z∈m3,0≤z∧z<18446744073709551616)∧m3.length≤4096):=Ξ (by have h:=lst64_range x2 e2 hb2;rw [hq3] at h;rw [←hm3];exact h);have C3:Hid (∀ y,RdrAt y r x2 e2→y.cell? ⟨c4,0,none⟩=some (.pointer (some ⟨r,0,none⟩))→Calls prog 138 #[.pointer (some ⟨r,0,none⟩),.int .i64 8,.int .i64 4096,.func (.func 108) #[.pointer (some ⟨r,0,none⟩)] #[]] y fun z w'=>∃ a n c,z=.returned (.slice a n c)∧SlRd .u64 w' ⟨a,c,m3⟩∧m3.length=n∧(∀ b∈(Sl.mk a c m3).bs,y.heap.size≤b)∧RdrAt w' r x3 e3∧Only [r] y w'):=Ξ fun y hy hcy=>by
  have h:=list64_on (cr:=0) hy hb2 hy.len;unfold list64To at h
  rwa [hq3,hm3] at h
 have HM3:=Ξ hm3;simp only [hq1,hq2,hq3];have GR:Hid (c4≠g5∧r≠g5∧c4≠r∧r<g5):=Ξ ⟨by omega,by omega,by omega,by omega⟩;have S0:Hid (∀ y,Only [r,g5] w y→y.cell? ⟨c4,0,none⟩=some (.pointer (some ⟨r,0,none⟩))):=Ξ fun y k=>by rw [k.cell (World.block_lt_of_cell? w ⟨c4,0,none⟩ hc) (by simp;omega)];exact hc
 have CK0:=Ξ (Ck.mk0 h hg h1 h2);clear h hb hc hg h1 h2 hb1 hq1 hb2 hq2 hu2 hq3 hm3 hb3;go_enter func139,ntmps139;go_upto_region 0 with fail;go_region_held3 (fun y=>y.cell? ⟨c4,0,none⟩=some (.pointer (some ⟨r,0,none⟩)))
  (first
   | exact S0.out _ ((Z2.out.2.1.setCell (.inl (by simp)) _).setCell (.inl (by simp)) _)
   | exact S0.out _ (Z2.out.2.1.setCell (.inl (by simp)) _)
   | exact S0.out _ Z2.out.2.1
   | exact S0.out _ Z1.out.2.1
   | exact S0.out _ (Ω _ w).drew)
  (first
   | ((with_reducible refine (C1.out _ CK0.out.drew.1).mono ?_);rintro _ z1 ⟨rfl,hr,ho⟩;have Z1:=Ξ (CK0.out.drew.rd hr ho);clear hr ho C1)
   | ((with_reducible refine (C2.out _ Z1.out.1).mono ?_);rintro _ z2 ⟨rfl,hr,ho⟩;have Z2:=Ξ (Z1.out.rd hr ho);clear hr ho C2;have fr6:=Z2.out.2.2.1.free 6;have l6:=Z2.out.2.2.1.c 6 (.int .i64 0);have fr9:=Z2.out.2.2.1.free 9;have l9:=Z2.out.2.2.1.c 9 (.int .i64 0);have KA:=Ξ ((Z2.out.st 6 (.int .i64 v1)).st 9 (.int .i64 u2));have sA:=S0.out _ KA.out.2.1)
   | fail)
 all_goals
  go_wp2_with fail;refine (C3.out _ KA.out.1 (S0.out _ KA.out.2.1)).mono ?_;rintro _ y3 ⟨a3,n3,k3,rfl,hs,hn,hbs,hr,ho⟩;have K3:=Ξ (KA.out.rd hr ho);have SB3:Hid (SlRd .u64 y3 ⟨a3,k3,m3⟩∧m3.length=n3∧∀ b∈(Sl.mk a3 k3 m3).bs,g5<b∧w.heap.size≤b):=Ξ ⟨hs,hn,fun b hb=>⟨Nat.lt_of_lt_of_le KA.out.2.2.1.lt (hbs b hb),Nat.le_trans KA.out.2.1.size (hbs b hb)⟩⟩;have fr8:=K3.out.2.2.1.free 8;have l8:=K3.out.2.2.1.c 8 (.slice none 0 0);clear hs hn hbs hr ho C3;go_wp2_with fail;refine bodyPost_ret (results_none rfl _ _ _) rfl ?_;have V1:=V1.out;have V2:=U2.out;have SLR3:=SB3.out.1.only ((Ω [g5] y3).setCell (p:=⟨g5,8,none⟩) (.inl (by simp)) (.slice a3 n3 k3)) (fun _ b hb=>by have:=SB3.out.2.2 b hb;simp;omega);exact ⟨⟨11,Rc3.no,0,0,v1,Sl.no,⟨a3,k3,m3⟩,u2⟩,rfl,by simpa [Rq.cells,Rc3.no,Sl.v,Sl.no,SB3.out.2.1] using K3.out.2.2.1.set 8 (.slice a3 n3 k3),Rq.Shape.knnf v1 u2 ⟨a3,k3,m3⟩ V1.1 V1.2 V2.1 V2.2 SLR3 M3.out.1 M3.out.2,by simp only [Rq.c,Qc.bare,Rc3.no,Sl.no,←HM3.out,←HU2.out,List.map_id'],K3.out.2.1.setCell (.inl (by simp)) _,fun b hb=>by simp only [List.mem_append] at hb;rcases hb with ((hb|hb)|hb)|hb<;>first|(simp [Rc3.no,Sl.no,Sl.bs] at hb;done)|exact (SB3.out.2.2 b hb).2⟩
theorem clo_putf{r c4 g5:Nat}{xs:List Int}{e:Int}{w:World}(h:RdrAt w r xs e)(hb:IsBy xs)(hc:w.cell? ⟨c4,0,none⟩=some (.pointer (some ⟨r,0,none⟩)))(hg:Row w g5 (bareCells 10) tRq)(h1:r<c4)(h2:c4<g5) :
  Calls prog 137 #[.pointer (some ⟨c4,0,none⟩),.pointer (some ⟨g5,0,none⟩)] w (CloTo r g5 { Qc.bare 10 with ik:=(fixF 8 xs e).1,sc:=i8 (fixF 1 (fixF 8 xs e).2.1 (fixF 8 xs e).2.2).1,fl:=(lstF 8 (fixF 1 (fixF 8 xs e).2.1 (fixF 8 xs e).2.2).2.1 (fixF 1 (fixF 8 xs e).2.1 (fixF 8 xs e).2.2).2.2).1,tag:=(txtF 1024 (lstF 8 (fixF 1 (fixF 8 xs e).2.1 (fixF 8 xs e).2.2).2.1 (fixF 1 (fixF 8 xs e).2.1 (fixF 8 xs e).2.2).2.2).2.1 (lstF 8 (fixF 1 (fixF 8 xs e).2.1 (fixF 8 xs e).2.2).2.1 (fixF 1 (fixF 8 xs e).2.1 (fixF 8 xs e).2.2).2.2).2.2).1 } w):=by
 unfold bareCells at hg;obtain ⟨v1,x1,e1,hq1⟩:∃ v x ee,fixF 8 xs e=(v,x,ee):=⟨_,_,_,rfl⟩;have V1:Hid (0≤v1∧v1<18446744073709551616):=Ξ (by have h:=fixF_range 8 xs e hb;rw [hq1] at h;exact ⟨h.1,by have:=h.2;omega⟩);have hb1:IsBy x1:=by have h:=fixF_by 8 hb e;rw [hq1] at h;exact h
 have C1:Hid (∀ y,RdrAt y r xs e→Calls prog 108 #[.pointer (some ⟨r,0,none⟩)] y fun z w'=>z=.returned (.int .u64 v1)∧RdrAt w' r x1 e1∧Only [r] y w'):=Ξ fun y hy=>by
  have h:=rdU64 hy hb
  rwa [hq1] at h
 obtain ⟨v2,x2,e2,hq2⟩:∃ v x ee,fixF 1 x1 e1=(v,x,ee):=⟨_,_,_,rfl⟩;have V2:Hid (0≤v2∧v2<256):=Ξ (by have h:=fixF_range 1 x1 e1 hb1;rw [hq2] at h;exact ⟨h.1,by have:=h.2;omega⟩);have hb2:IsBy x2:=by have h:=fixF_by 1 hb1 e1;rw [hq2] at h;exact h
 have C2:Hid (∀ y,RdrAt y r x1 e1→Calls prog 100 #[.pointer (some ⟨r,0,none⟩)] y fun z w'=>z=.returned (.int .u8 v2)∧RdrAt w' r x2 e2∧Only [r] y w'):=Ξ fun y hy=>by
  have h:=rdU8 hy hb1
  rwa [hq2] at h
 have wa2:IntKind.i8.wrap v2=i8 v2:=wrap_i8 V2.out.1 V2.out.2;have U2:Hid (-128≤i8 v2∧i8 v2<128):=Ξ (by have:=V2.out;unfold i8;split<;>omega);obtain ⟨u2,hu2⟩:∃ u,i8 v2=u:=⟨_,rfl⟩;rw [hu2] at wa2 U2;have wb2:IntKind.i64.wrap u2=u2:=IntWalk.i64_in _ (by have:=U2.out;omega);have HU2:=Ξ hu2;obtain ⟨l3,x3,e3,hq3⟩:∃ v x ee,lstF 8 x2 e2=(v,x,ee):=⟨_,_,_,rfl⟩;have hb3:IsBy x3:=by have h:=lstF_by 8 hb2 e2;rw [hq3] at h;exact h
 obtain ⟨m3,hm3⟩:∃ m,l3.map (fun x=>x)=m:=⟨_,rfl⟩;have M3:Hid ((∀ z∈m3,0≤z∧z<18446744073709551616)∧m3.length≤4096):=Ξ (by have h:=lst64_range x2 e2 hb2;rw [hq3] at h;rw [←hm3];exact h);have C3:Hid (∀ y,RdrAt y r x2 e2→y.cell? ⟨c4,0,none⟩=some (.pointer (some ⟨r,0,none⟩))→Calls prog 138 #[.pointer (some ⟨r,0,none⟩),.int .i64 8,.int .i64 4096,.func (.func 108) #[.pointer (some ⟨r,0,none⟩)] #[]] y fun z w'=>∃ a n c,z=.returned (.slice a n c)∧SlRd .u64 w' ⟨a,c,m3⟩∧m3.length=n∧(∀ b∈(Sl.mk a c m3).bs,y.heap.size≤b)∧RdrAt w' r x3 e3∧Only [r] y w'):=Ξ fun y hy hcy=>by
  have h:=list64_on (cr:=0) hy hb2 hy.len;unfold list64To at h
  rwa [hq3,hm3] at h
 have HM3:=Ξ hm3;obtain ⟨m4,x4,e4,hq4⟩:∃ v x ee,txtF 1024 x3 e3=(v,x,ee):=⟨_,_,_,rfl⟩;have M4:Hid (IsBy m4∧m4.length≤1024):=Ξ (by have h:=txtF_ok 1024 x3 e3 hb3;rw [hq4] at h;exact h);have C4:Hid (∀ y,RdrAt y r x3 e3→Calls prog 105 #[.pointer (some ⟨r,0,none⟩),.int .i64 1024] y fun z w'=>∃ a n c,z=.returned (.slice a n c)∧SlRd .u8 w' ⟨a,c,m4⟩∧m4.length=n∧(∀ b∈(Sl.mk a c m4).bs,y.heap.size≤b)∧RdrAt w' r x4 e4∧Only [r] y w'):=Ξ fun y hy=>(text_gen hy hb3 1024 (by omega)).mono fun z w' h=>by obtain ⟨⟨a,c,zs⟩,h1,h2,h3,h4,h5,h6⟩:=h;rw [hq4] at h2 h5;simp only at h2;subst h2;exact ⟨a,_,c,h1,h3.rd,rfl,h4,h5,h6⟩
 simp only [hq1,hq2,hq3,hq4];have GR:Hid (c4≠g5∧r≠g5∧c4≠r∧r<g5):=Ξ ⟨by omega,by omega,by omega,by omega⟩;have S0:Hid (∀ y,Only [r,g5] w y→y.cell? ⟨c4,0,none⟩=some (.pointer (some ⟨r,0,none⟩))):=Ξ fun y k=>by rw [k.cell (World.block_lt_of_cell? w ⟨c4,0,none⟩ hc) (by simp;omega)];exact hc
 have CK0:=Ξ (Ck.mk0 h hg h1 h2);clear h hb hc hg h1 h2 hb1 hq1 hb2 hq2 hu2 hq3 hm3 hb3 hq4;go_enter func137,ntmps137;go_upto_region 0 with fail;go_region_held3 (fun y=>y.cell? ⟨c4,0,none⟩=some (.pointer (some ⟨r,0,none⟩)))
  (first
   | exact S0.out _ ((Z2.out.2.1.setCell (.inl (by simp)) _).setCell (.inl (by simp)) _)
   | exact S0.out _ (Z2.out.2.1.setCell (.inl (by simp)) _)
   | exact S0.out _ Z2.out.2.1
   | exact S0.out _ Z1.out.2.1
   | exact S0.out _ (Ω _ w).drew)
  (first
   | ((with_reducible refine (C1.out _ CK0.out.drew.1).mono ?_);rintro _ z1 ⟨rfl,hr,ho⟩;have Z1:=Ξ (CK0.out.drew.rd hr ho);clear hr ho C1)
   | ((with_reducible refine (C2.out _ Z1.out.1).mono ?_);rintro _ z2 ⟨rfl,hr,ho⟩;have Z2:=Ξ (Z1.out.rd hr ho);clear hr ho C2;have fr1:=Z2.out.2.2.1.free 1;have l1:=Z2.out.2.2.1.c 1 (.int .u64 0);have fr9:=Z2.out.2.2.1.free 9;have l9:=Z2.out.2.2.1.c 9 (.int .i64 0);have KA:=Ξ ((Z2.out.st 1 (.int .u64 v1)).st 9 (.int .i64 u2));have sA:=S0.out _ KA.out.2.1)
   | fail)
 all_goals
  go_wp2_with fail;refine (C3.out _ KA.out.1 (S0.out _ KA.out.2.1)).mono ?_;rintro _ y3 ⟨a3,n3,k3,rfl,hs,hn,hbs,hr,ho⟩;have K3:=Ξ (KA.out.rd hr ho);have SB3:Hid (SlRd .u64 y3 ⟨a3,k3,m3⟩∧m3.length=n3∧∀ b∈(Sl.mk a3 k3 m3).bs,g5<b∧w.heap.size≤b):=Ξ ⟨hs,hn,fun b hb=>⟨Nat.lt_of_lt_of_le KA.out.2.2.1.lt (hbs b hb),Nat.le_trans KA.out.2.1.size (hbs b hb)⟩⟩;have fr8:=K3.out.2.2.1.free 8;have l8:=K3.out.2.2.1.c 8 (.slice none 0 0);have L3:=Ξ (K3.out.st 8 (.slice a3 n3 k3));have sB3:=S0.out _ L3.out.2.1;clear sA;clear hs hn hbs hr ho C3;go_wp2_with fail;refine (C4.out _ L3.out.1).mono ?_;rintro _ y4 ⟨a4,n4,k4,rfl,hs,hn,hbs,hr,ho⟩;have K4:=Ξ (L3.out.rd hr ho);have SB4:Hid (SlRd .u8 y4 ⟨a4,k4,m4⟩∧m4.length=n4∧∀ b∈(Sl.mk a4 k4 m4).bs,g5<b∧w.heap.size≤b):=Ξ ⟨hs,hn,fun b hb=>⟨Nat.lt_of_lt_of_le L3.out.2.2.1.lt (hbs b hb),Nat.le_trans L3.out.2.1.size (hbs b hb)⟩⟩;have SB3:=Ξ (Ψ (SB3.out.1.only (((Ω [r,g5] _).setCell (.inl (by simp)) _).trans (ho.mono (by simp)) (fun b hb=>.inl hb)) (fun _ b hb=>by have h1:=SB3.out.2.2 b hb;have h2:=GR.out;simp;omega)) SB3.out.2);have fr3:=K4.out.2.2.1.free 3;have l3:=K4.out.2.2.1.c 3 (.slice none 0 0);clear hs hn hbs hr ho C4;go_wp2_with fail;refine bodyPost_ret (results_none rfl _ _ _) rfl ?_;have V1:=V1.out;have V2:=U2.out;have SLR3:=SB3.out.1.only ((Ω [g5] y4).setCell (p:=⟨g5,3,none⟩) (.inl (by simp)) (.slice a4 n4 k4)) (fun _ b hb=>by have:=SB3.out.2.2 b hb;simp;omega);have SLR4:=SB4.out.1.only ((Ω [g5] y4).setCell (p:=⟨g5,3,none⟩) (.inl (by simp)) (.slice a4 n4 k4)) (fun _ b hb=>by have:=SB4.out.2.2 b hb;simp;omega);exact ⟨⟨10,⟨v1,Sl.no,⟨a4,k4,m4⟩⟩,0,0,0,Sl.no,⟨a3,k3,m3⟩,u2⟩,rfl,by simpa [Rq.cells,Rc3.no,Sl.v,Sl.no,SB3.out.2.1,SB4.out.2.1] using K4.out.2.2.1.set 3 (.slice a4 n4 k4),Rq.Shape.putf v1 u2 ⟨a4,k4,m4⟩ ⟨a3,k3,m3⟩ V1.1 V1.2 V2.1 V2.2 SLR4 M4.out.1 M4.out.2 SLR3 M3.out.1 M3.out.2,by simp only [Rq.c,Qc.bare,Rc3.no,Sl.no,←HM3.out,←HU2.out,List.map_id'],K4.out.2.1.setCell (.inl (by simp)) _,fun b hb=>by simp only [List.mem_append] at hb;rcases hb with ((hb|hb)|hb)|hb<;>first|(simp [Rc3.no,Sl.no,Sl.bs] at hb;done)|exact (SB3.out.2.2 b hb).2|exact (SB4.out.2.2 b hb).2⟩
abbrev tItm:TypeId:=37
theorem results_it3_tmp{fn:Func}{p u:Tmp}(h:fn.results=#[.cell p tItm,.tmp u])(tmps:Array Value)(w:World)(g:Nat)(R:Array Value)(hR:R.size=3)(hp:tmps.getD p undef=.pointer (some ⟨g,0,none⟩))(hg:Row w g R tItm):(results fn tmps).run prog w=.ok (.tuple #[.agg R,tmps.getD u undef]) w:=by
 have hp':tmps[p]?.getD undef=.pointer (some ⟨g,0,none⟩):=by simpa using hp
 simp only [results,h];simp [Sem.run_bind,hp',asAddr,Result.andThen,run_loadVar_row w g _ _ _ _ _ hg underlying37 rfl (by rw [show (prog.info? tItm).map (·.size)=some 3 from by kernel_rfl,hR])]
theorem rowset3{y:World}{g:Nat}{T:TypeId}{a b c a' b' c':Value}(h:Row y g #[a,b,c] T):Row (((y.setCell ⟨g,0,none⟩ a').setCell ⟨g,1,none⟩ b').setCell ⟨g,2,none⟩ c') g #[a',b',c'] T:=by simpa using ((h.set 0 a').set 1 b').set 2 c'
structure RdI(w:World)(r gx B:Nat)(key:Int)(ys:List Int)(e:Int)(wr:World)(a:Option Addr)(i c:Nat):Prop where
 row:Row wr gx #[.int .u64 key,.slice a i c,.slice none 0 0] tItm
 own:wr.ownsRow B 21 1 (.slice a i c) i (((nums 4 i ys).map i32).map (Value.int .i32))
 rd:RdrAt wr r (ys.drop (4 * i)) e
 on:Only [r,gx] w wr
theorem app32(w:World)(B:Nat)(a:Option Addr)(n c:Nat)(xs:List Value)(hown:w.ownsRow B 21 1 (.slice a n c) n xs)(hB:B≤w.heap.size)(h:n≤100000)(z:Int) :
  ∃ pp cc w',(Builtin.append_ #[35,35] 35 #[.slice a n c,.slice (some ⟨w.heap.size,0,none⟩) 1 1]).run prog (w.alloc (.cells #[.int .i32 z] 21))=.ok (.slice pp (n+1) cc) w'∧w'.ownsRow B 21 1 (.slice pp (n+1) cc) (n+1) (xs++[.int .i32 z])∧Only (Value.slice a n c).ownBlock.toList w w':=by
 obtain ⟨i0',hi0,hz0,hz1,hz2⟩:=info_parts infoI32;obtain ⟨v',w',h1,h2,h3,_⟩:=append_own_at (P:=prog) (w.alloc (.cells #[.int .i32 z] 21)) B 35 35 21 i0' (.int .i32 0) 1 4 underlying35 hi0 hz0 hz1 hz2 rfl (by decide) (.slice a n c) n xs (hown.alloc _) ⟨w.heap.size,0,none⟩ 1 1 [.int .i32 z] rfl (fun q u hq=>by rcases q with _|q<;>simp at hq<;>subst hq<;>simp [go_sem]) (by simp [Value.oneCell']) (by unfold maxLen;omega) (by omega) (by simp;omega);have hO:Only (Value.slice a n c).ownBlock.toList w w':=((Ω _ w).alloc _).grown h3 (fun k hk=>.inl (by simp [hk]));have h2':=h2;rcases h2'.2 with ⟨rfl,h0⟩|⟨g,cap,cur,rfl,_⟩
 ·omega
 ·exact ⟨_,_,w',h1,h2,hO⟩
def ItRdTo(b:List Int)(w:World)(z:Ending)(w':World):Prop:=∃ (k:Int) (a1:Option Addr) (n1 c1:Nat) (v:List Int) (a2:Option Addr) (n2 c2:Nat) (t:List Int) (er:Int),z=.returned (.tuple #[.agg #[.int .u64 k,.slice a1 n1 c1,.slice a2 n2 c2],.int .i64 er])∧SlRd .i32 w' ⟨a1,c1,v⟩∧v.length=n1∧SlRd .u8 w' ⟨a2,c2,t⟩∧t.length=n2∧(∀ x∈(Sl.mk a1 c1 v).bs++(Sl.mk a2 c2 t).bs,w.heap.size≤x)∧((rdItem b=some (k,v,t)∧er=0)∨(rdItem b=none∧k=0∧v=[]∧t=[]∧er=4))∧Below w.heap.size w w'
theorem itread_on{s:Sl}{w:World}(h:SlRd .u8 w s)(hb:IsBy s.xs):Calls prog 102 #[s.v] w (ItRdTo s.xs w):=by
 obtain ⟨i0',hi0,hz0,hz1,hz2⟩:=info_parts infoI32;have NR:=Ξ fun (y:World) (hy:Below w.heap.size w y)=>newrd_on (h.only ((Ω [] w).below hy) (by simp));have HLE:=Ξ h.le;obtain ⟨b,hbx⟩:∃ b,s.xs=b:=⟨_,rfl⟩;have HBY:=Ξ (show IsBy b by rw [←hbx];exact hb);obtain ⟨v,hv⟩:∃ v,s.v=v:=⟨_,rfl⟩;unfold NewRdTo at NR;rw [hbx,hv] at NR;rw [hbx] at HLE;rw [hbx,hv];clear h hb hbx hv;have R2:=Ξ (Φ w #[.int .u64 0,.slice none 0 0,.slice none 0 0] tItm);have B1:Hid (Below w.heap.size w (w.alloc (.cells #[.int .u64 0,.slice none 0 0,.slice none 0 0] tItm))):=Ξ ((Δ _ w).alloc (Θ _) _);obtain ⟨key,x1,e1,hq1⟩:∃ v x ee,fixF 8 b 0=(v,x,ee):=⟨_,_,_,rfl⟩;have HX1:Hid (IsBy x1∧0≤key∧key<18446744073709551616):=Ξ (by have h:=fixF_by 8 HBY.out 0;have h2:=fixF_range 8 b 0 HBY.out;rw [hq1] at h h2;exact ⟨h,h2.1,by have:=h2.2;omega⟩)
 have C1:Hid (∀ y r,RdrAt y r b 0→Calls prog 108 #[.pointer (some ⟨r,0,none⟩)] y fun z w'=>z=.returned (.int .u64 key)∧RdrAt w' r x1 e1∧Only [r] y w'):=Ξ fun y r hy=>by
  have h:=rdU64 hy HBY.out
  rwa [hq1] at h
 obtain ⟨m',ys,e2,hq2⟩:∃ v x ee,uvF x1 e1=(v,x,ee):=⟨_,_,_,rfl⟩;have hm0:=uvF_nonneg x1 e1 HX1.out.1;have hm1:=uvF_lt x1 e1 HX1.out.1;have hyb:=uvF_by HX1.out.1 e1;have hee:=uvF_err x1 e1;rw [hq2] at hm0 hm1 hyb hee;obtain ⟨m,rfl⟩:∃ m:Nat,m'=(m:Int):=Int.eq_ofNat_of_zero_le hm0;have C2:Hid (∀ y r,RdrAt y r x1 e1→Calls prog 170 #[.pointer (some ⟨r,0,none⟩)] y fun z w'=>z=.returned (.int .u64 (m:Int))∧RdrAt w' r ys e2∧Only [r] y w'):=Ξ fun y r hy=>by
  have h:=uv_gen hy HX1.out.1;unfold UvTo at h
  rwa [hq2] at h
 obtain ⟨n,hn⟩:∃ n,ys.length=n:=⟨_,rfl⟩;have HYS:Hid (IsBy ys∧ys.length=n∧(m:Int)<18446744073709551616∧(e2≠0→m=0)):=Ξ ⟨hyb,hn,hm1,fun hh=>by have:=hee hh;simp only at this;omega⟩;have LF:Hid (∀ y r,RdrAt y r ys e2→Calls prog 171 #[.pointer (some ⟨r,0,none⟩)] y fun z w'=>z=.returned (.int .i64 (n:Int))∧w'=y):=Ξ fun y r hy=>by rw [←hn];exact left_on hy
 have RI:Hid (rdItem b=if (4096:Int)<(m:Int)∨n<m * 4 then none else if (txtF 1024 (ys.drop (4 * m)) e2).2.2≠0∨0<(txtF 1024 (ys.drop (4 * m)) e2).2.1.length∨m=0 then none else some (key,(nums 4 m ys).map i32,(txtF 1024 (ys.drop (4 * m)) e2).1)):=Ξ (by
  unfold rdItem lstF;simp only [hq1,hq2,hn,Int.toNat_natCast];by_cases hc:(4096:Int)<(m:Int)∨n<m * 4
  ·rw [if_pos hc,if_pos hc]
  ·rw [if_neg hc,if_neg hc,if_neg hc];simp only [nums_len])
 have HNO:Hid (∀ y,Below w.heap.size w y→rdItem b=none→ItRdTo b w (.returned (.tuple #[.agg #[.int .u64 0,.slice none 0 0,.slice none 0 0],.int .i64 4])) y):=Ξ fun y hy hr=>⟨0,none,0,0,[],none,0,0,[],4,rfl,SlRd.no _ _,rfl,SlRd.no _ _,rfl,by simp [Sl.bs],.inr ⟨hr,rfl,rfl,rfl,rfl⟩,hy⟩;clear hm0 hm1 hyb hee hn hq1 hq2;go_enter func102,ntmps102;go_wp2_with fail;refine (NR.out _ B1.out).mono ?_;generalize w.alloc (.cells #[.int .u64 0,.slice none 0 0,.slice none 0 0] tItm)=w1 at *;rintro _ w2 ⟨r,rfl,hr,hb2,hr2⟩;have O12:=Ξ ((Ω [] w1).below hb2);have HR:=Ξ (Ψ hr hr2);clear hr hb2 hr2 NR;go_wp2_with fail;refine (C1.out w2 r HR.out.1).mono ?_;rintro _ w3 ⟨rfl,hr3,ho3⟩;have H3:Hid (RdrAt w3 r x1 e1∧Only [r] w2 w3):=Ξ ⟨hr3,ho3⟩;clear hr3 ho3 C1;obtain ⟨gx,hgx⟩:∃ gx,w3.heap.size=gx:=⟨_,rfl⟩;have GX:Hid (w3.heap.size=gx∧r<gx):=Ξ ⟨hgx,by obtain ⟨s,_,hr,_⟩:=H3.out.1.at_;have:=hr.lt;omega⟩;have H4:Hid (RdrAt (w3.alloc (.cells #[.int .u64 key,.slice none 0 0,.slice none 0 0] tItm)) r x1 e1∧Row (w3.alloc (.cells #[.int .u64 key,.slice none 0 0,.slice none 0 0] tItm)) gx #[.int .u64 key,.slice none 0 0,.slice none 0 0] tItm∧Only [r] w2 (w3.alloc (.cells #[.int .u64 key,.slice none 0 0,.slice none 0 0] tItm))):=Ξ ⟨H3.out.1.behind ((Ω [] _).alloc _) (by simp),by rw [←hgx];exact Φ _ _ _,H3.out.2.alloc _⟩;go_wp2_with fail;clear hgx;refine (C2.out _ r H4.out.1).mono ?_;generalize w3.alloc (.cells #[.int .u64 key,.slice none 0 0,.slice none 0 0] tItm)=w4 at *;rintro _ w5 ⟨rfl,hr5,ho5⟩;have H5:Hid (RdrAt w5 r ys e2∧Row w5 gx #[.int .u64 key,.slice none 0 0,.slice none 0 0] tItm∧Only [r] w2 w5):=Ξ ⟨hr5,H4.out.2.1.only ho5 (by have:=GX.out;simp;omega),H4.out.2.2.trans ho5 (fun b hb=>.inl hb)⟩;have K5:Hid (Only [] w1 w5∧w1.heap.size≤r∧w1.heap.size≤gx∧gx<w5.heap.size):=Ξ ⟨O12.out.trans H5.out.2.2 (by intro i hi;right;simp at hi;have:=HR.out.2;omega),HR.out.2,by have:=GX.out;have:=HR.out.2;omega,H5.out.2.1.lt⟩;have WB:Hid (∀ y,Only [r,gx] w5 y→Below w.heap.size w y∧Row y w.heap.size #[.int .u64 0,.slice none 0 0,.slice none 0 0] tItm):=Ξ fun y hy=>by have k:Only [] w1 y:=K5.out.1.trans hy (by intro i hi;right;simp at hi;have:=K5.out;omega);exact ⟨B1.out.trans (k.toBelow B1.out.size (by simp)),R2.out.only k (by simp)⟩
 clear hr5 ho5 C2 H3 H4 O12 HR R2;have cr0:=H5.out.2.1.c 0 (.int .u64 key);have ZR:=Ξ (WB.out w5 (Ω _ _));have cz0:=ZR.out.2.c 0 (.int .u64 0);have cz1:=ZR.out.2.c 1 (.slice none 0 0);have cz2:=ZR.out.2.c 2 (.slice none 0 0);have fz0:w5.frozen? ⟨w.heap.size,0,none⟩=false:=ZR.out.2.free 0;have fz1:w5.frozen? ⟨w.heap.size,1,none⟩=false:=ZR.out.2.free 1;have fz2:w5.frozen? ⟨w.heap.size,2,none⟩=false:=ZR.out.2.free 2;by_cases hbig:4096<m
 ·have d1:decide ((4096:Int)<(m:Int))=true:=Γ (by omega);have d1':decide (4096<m)=true:=Γ hbig;have RN:Hid (rdItem b=none):=Ξ (by rw [RI.out,if_pos (.inl (by omega))]);clear hbig;go_wp2_with fail;refine bodyPost_ret (results_it3_tmp rfl _ _ w.heap.size _ rfl rfl (rowset3 ZR.out.2)) rfl ?_;exact HNO.out _ (((ZR.out.1.setCell (by simp) _).setCell (by simp) _).setCell (by simp) _) RN.out
 ·have d1:decide ((4096:Int)<(m:Int))=false:=Λ (by omega);have d1':decide (4096<m)=false:=Λ hbig;have wm:IntKind.i64.wrap (m:Int)=(m:Int):=IntWalk.i64_in _ (by omega);have wm2:IntKind.i64.wrap (4 * (m:Int))=((4 * m:Nat):Int):=by rw [show 4 * (m:Int)=((4 * m:Nat):Int) by omega];exact IntWalk.i64_in _ (by omega)
  obtain ⟨q,hq⟩:∃ q,4 * m=q:=⟨_,rfl⟩;rw [hq] at wm2;have HM:Hid (m≤4096∧4 * m=q):=Ξ ⟨by omega,hq⟩;clear hbig hq;by_cases hsh:n<q
  ·have d2:decide ((n:Int)<(q:Int))=true:=Γ (by omega);have d2':decide (n<q)=true:=Γ hsh;have RN:Hid (rdItem b=none):=Ξ (by rw [RI.out,if_pos (.inr (by have:=HM.out;omega))]);clear hsh;go_wp2_with fail;refine (LF.out w5 r H5.out.1).mono ?_;rintro _ w' ⟨rfl,hw'⟩;subst w';go_wp2_with fail;refine bodyPost_ret (results_it3_tmp rfl _ _ w.heap.size _ rfl rfl (rowset3 ZR.out.2)) rfl ?_;exact HNO.out _ (((ZR.out.1.setCell (by simp) _).setCell (by simp) _).setCell (by simp) _) RN.out
  ·have d2:decide ((n:Int)<(q:Int))=false:=Λ (by omega);have d2':decide (n<q)=false:=Λ hsh;have HQ:=Ξ (Nat.le_of_not_lt hsh);clear hsh;go_wp2_with fail;refine (LF.out w5 r H5.out.1).mono ?_;rintro _ w' ⟨rfl,hw'⟩;subst w';clear cz0 cz1 cz2 fz0 fz1 fz2 ZR cr0;have I0:Hid (RdI w5 r gx w5.heap.size key ys e2 w5 none 0 0):=Ξ ⟨H5.out.2.1,by simpa [nums] using World.ownsRow_nil _ _ _ _,by simpa using H5.out.1,Ω _ _⟩;go_wp2_with fail;go_loopw [26] (fun u wr=>∃ (i:Nat) (a:Option Addr) (c:Nat),u=.int .u64 (i:Int)∧Hid (i≤m)∧Hid (RdI w5 r gx w5.heap.size key ys e2 wr a i c)) (fun u _=>m-(intOf u).toNat)
   case atStart=>exact ⟨0,none,0,rfl,Ξ (by omega),I0⟩
   case round=>
    clear I0;obtain ⟨i,a,c,rfl,HI,HV⟩:=hrel;rename World=>w6;have ej:IntKind.u64.wrap ((i:Int)+1)=((i+1:Nat):Int):=by rw [show IntKind.u64.wrap ((i:Int)+1)=((i:Int)+1) % 18446744073709551616 from rfl];have:=HI.out;have:=HM.out;omega
    by_cases hlt:i<m
    ·have d3:decide ((i:Int)<(m:Int))=true:=Γ (by omega);have d3':decide (i<m)=true:=Γ hlt;have HLT:=Ξ hlt;have E0:Hid (e2=0):=Ξ (Classical.byContradiction fun hh=>by have:=HYS.out.2.2.2 hh;omega);have FX:Hid (fixF 4 (ys.drop (4 * i)) e2=(leV ((ys.drop (4 * i)).take 4),ys.drop (4 * (i+1)),e2)):=Ξ (by unfold fixF;rw [E0.out,if_neg (by simp),if_neg (by rw [List.length_drop,HYS.out.2.1];have:=HQ.out;have:=HM.out.2;omega),List.drop_drop,Nat.mul_succ])
     have hV:0≤leV ((ys.drop (4 * i)).take 4)∧leV ((ys.drop (4 * i)).take 4)<256 ^ 4:=by
      have h1:=leV_lt ((ys.drop (4 * i)).take 4) ((HYS.out.1.drop _).take _)
      rwa [List.length_take,List.length_drop,HYS.out.2.1,show min 4 (n-4 * i)=4 by have:=HQ.out;have:=HM.out.2;omega] at h1
     have NS:=Ξ (nums_succ 4 i ys);have CL:Hid (Calls prog 136 #[.pointer (some ⟨r,0,none⟩)] w6.drew fun zz w'=>zz=.returned (.int .u32 (leV ((ys.drop (4 * i)).take 4)))∧RdrAt w' r (ys.drop (4 * (i+1))) e2∧Only [r] w6.drew w'):=Ξ (by
      have h:=rdU32 (HV.out.rd.below (Δ _ _).drew) (HYS.out.1.drop _)
      rwa [FX.out] at h)
     have wi:IntKind.i32.wrap (leV ((ys.drop (4 * i)).take 4))=i32 (leV ((ys.drop (4 * i)).take 4)):=wrap_i32 hV.1 (by have:=hV.2;omega);generalize leV ((ys.drop (4 * i)).take 4)=z at *;obtain ⟨z2,hz2'⟩:∃ z2,i32 z=z2:=⟨_,rfl⟩;rw [hz2'] at wi;have HZ:=Ξ hz2';have KR:Hid (∀ y,Only [r] w6.drew y→Row y gx #[.int .u64 key,.slice a i c,.slice none 0 0] tItm∧y.ownsRow w5.heap.size 21 1 (.slice a i c) i (((nums 4 i ys).map i32).map (Value.int .i32))∧Only [r,gx] w5 y):=Ξ fun y hy=>by have k:Only [r] w6 y:=(Ω [r] w6).drew.trans hy (fun b hb=>.inl hb);exact ⟨HV.out.row.only k (by have:=GX.out;simp;omega),own_keep HV.out.own fun b hb=>k.block b (HV.out.own.lt b hb).2 (by have:=(HV.out.own.lt b hb).1;have:=K5.out;have:=GX.out;simp;omega),HV.out.on.trans (k.mono (by simp)) (fun b hb=>.inl hb)⟩
     have l1:w6.drew.cell? ⟨gx,1,none⟩=some (.slice a i c):=(KR.out _ (Ω _ _)).1.cell 1;clear hlt hV hz2';go_upto_region 8 with fail;go_region_law (first
      | (refine step_append_eq rfl (.tmp 29) (.tmp 33) 35 rfl (.slice a i c) (.slice (some ⟨w7.heap.size,0,none⟩) 1 1) (.slice pp (i+1) cc) w9 (by simp [Act.eval,Act.put]) (by simp [Act.eval,Act.put]) run9 ?_;clear run9)
      | (go_simp;go_at_call 136;refine CL.out.mono ?_;rintro _ w7 ⟨rfl,hr7,ho7⟩;have R7:=Ξ hr7;have O7:=Ξ ho7;clear hr7 ho7;have l7:=(KR.out _ O7.out).1.c 1 (.slice a i c);have l8:(w7.alloc (.cells #[.int .i32 z2] 21)).cell? ⟨gx,1,none⟩=some (.slice a i c):=((KR.out _ O7.out).1.only ((Ω [] _).alloc _) (by simp)).cell 1;obtain ⟨pp,cc,w9,run9,own9,on9⟩:=app32 w7 w5.heap.size a i c _ (KR.out _ O7.out).2.1 (by have:=(KR.out _ O7.out).2.2.size;omega) (by have:=HLT.out;have:=HM.out;omega) z2;have OW9:=Ξ own9;have ON9:=Ξ on9;have RW9:Hid (Row w9 gx #[.int .u64 key,.slice a i c,.slice none 0 0] tItm):=Ξ ((KR.out _ O7.out).1.only on9 (fun hm=>by have:=((KR.out _ O7.out).2.1.lt gx (by simpa using hm)).1;have:=K5.out;omega));have fr9:=RW9.out.free 1;have c9:=RW9.out.cell 1;clear own9 on9))
     all_goals
      have F9:Hid (RdI w5 r gx w5.heap.size key ys e2 (w9.setCell ⟨gx,1,none⟩ (.slice pp (i+1) cc)) pp (i+1) cc):=Ξ (by
       have hq:∀ x∈(Value.slice a i c).ownBlock.toList,w5.heap.size≤x:=fun x hx=>((KR.out _ O7.out).2.1.lt x (by simpa using hx)).1;refine ⟨by simpa using RW9.out.set 1 (.slice pp (i+1) cc),?_,?_,?_⟩
       ·rw [NS.out,List.map_append,List.map_append];simp only [List.map_cons,List.map_nil,HZ.out];exact own_keep OW9.out fun x hx=>((Ω [gx] w9).setCell (.inl (by simp)) _).block x (OW9.out.lt x hx).2 (by have:=(OW9.out.lt x hx).1;have:=K5.out;simp;omega)
       ·exact (R7.out.behind ON9.out (fun x hx=>by have:=hq x hx;have:=K5.out;have:=GX.out;omega)).behind ((Ω [gx] w9).setCell (.inl (by simp)) _) (by simp;exact GX.out.2)
       ·exact ((KR.out _ O7.out).2.2.trans ON9.out (fun x hx=>.inr (hq x hx))).setCell (.inl (by simp)) _)
      clear c9 fr9;try clear l7
      try clear l8
      go_wp2_with fail;go_roundw;case rel=>exact ⟨i+1,pp,cc,by go_num,Ξ (by have:=HLT.out;omega),F9⟩
      case measure=>have:=HLT.out;simp [intOf];omega
    ·have d3:decide ((i:Int)<(m:Int))=false:=Λ (by omega);have d3':decide (i<m)=false:=Λ hlt;obtain rfl:i=m:=by have:=HI.out;omega
     clear hlt;obtain ⟨tt,x4,e4,hq4⟩:∃ v x ee,txtF 1024 (ys.drop (4 * i)) e2=(v,x,ee):=⟨_,_,_,rfl⟩;have HT:Hid (IsBy tt∧tt.length≤1024):=Ξ (by have h:=txtF_ok 1024 (ys.drop (4 * i)) e2 (HYS.out.1.drop _);rw [hq4] at h;exact h);rw [hq4] at RI;have C4:Hid (Calls prog 105 #[.pointer (some ⟨r,0,none⟩),.int .i64 1024] w6 fun z w'=>∃ a n c,z=.returned (.slice a n c)∧SlRd .u8 w' ⟨a,c,tt⟩∧tt.length=n∧(∀ b∈(Sl.mk a c tt).bs,w6.heap.size≤b)∧RdrAt w' r x4 e4∧Only [r] w6 w'):=Ξ ((text_gen HV.out.rd (HYS.out.1.drop _) 1024 (by omega)).mono fun z w' h=>by obtain ⟨⟨a,c,zs⟩,h1,h2,h3,h4,h5,h6⟩:=h;rw [hq4] at h2 h5;simp only at h2;subst h2;exact ⟨a,_,c,h1,h3.rd,rfl,h4,h5,h6⟩)
     obtain ⟨L,hL⟩:∃ L,(nums 4 i ys).map i32=L:=⟨_,rfl⟩;have HLL:Hid (L.length=i∧(nums 4 i ys).map i32=L):=Ξ ⟨by rw [←hL,List.length_map,nums_len],hL⟩;have SV:Hid (SlRd .i32 w6 ⟨a,c,L⟩∧∀ x∈(Sl.mk a c L).bs,w5.heap.size≤x):=Ξ (by obtain ⟨⟨a',c',xs'⟩,e1,e2',h3,h4⟩:=SlAt.of_own (xs:=L) (by rw [←hL];exact HV.out.own) (by rw [HLL.out.1];have:=HM.out;omega);unfold Sl.v at e1;simp only [Value.slice.injEq] at e1;obtain ⟨rfl,_,rfl⟩:=e1;subst e2';exact ⟨h3.rd,h4⟩)
     clear hL hq4;go_wp2_with fail;refine C4.out.mono ?_;rintro _ w7 ⟨at',nt,ct,rfl,hs7,hn7,hg7,hr7,ho7⟩;have H7:Hid (SlRd .u8 w7 ⟨at',ct,tt⟩∧tt.length=nt∧(∀ b∈(Sl.mk at' ct tt).bs,w6.heap.size≤b)):=Ξ ⟨hs7,hn7,hg7⟩;have R7:Hid (Row w7 gx #[.int .u64 key,.slice a i c,.slice none 0 0] tItm):=Ξ (HV.out.row.only ho7 (by have:=GX.out;simp;omega));have O7:Hid (Only [r,gx] w6 (w7.setCell ⟨gx,2,none⟩ (.slice at' nt ct))):=Ξ ((ho7.mono (by simp)).setCell (.inl (by simp)) _);have R8:Hid (Row (w7.setCell ⟨gx,2,none⟩ (.slice at' nt ct)) gx #[.int .u64 key,.slice a i c,.slice at' nt ct] tItm):=Ξ (by simpa using R7.out.set 2 (.slice at' nt ct));have D8:Hid (RdrAt (w7.setCell ⟨gx,2,none⟩ (.slice at' nt ct)) r x4 e4):=Ξ (hr7.behind ((Ω [gx] w7).setCell (.inl (by simp)) _) (by simp;exact GX.out.2));have S8:Hid (SlRd .i32 (w7.setCell ⟨gx,2,none⟩ (.slice at' nt ct)) ⟨a,c,L⟩∧SlRd .u8 (w7.setCell ⟨gx,2,none⟩ (.slice at' nt ct)) ⟨at',ct,tt⟩∧(∀ x∈(Sl.mk a c L).bs++(Sl.mk at' ct tt).bs,w5.heap.size≤x)):=Ξ (by
      have h56:=HV.out.on.size;refine ⟨SV.out.1.only O7.out (fun _ b hb=>by have:=SV.out.2 b hb;have:=K5.out;have:=GX.out;simp;omega),H7.out.1.only ((Ω [gx] w7).setCell (.inl (by simp)) _) (fun _ b hb=>by have:=H7.out.2.2 b hb;have:=K5.out;simp;omega),fun x hx=>?_⟩;rcases List.mem_append.1 hx with hx|hx
      ·exact SV.out.2 x hx
      ·have:=H7.out.2.2 x hx;omega)
     have fr2:=R7.out.free 2;have cr2:=R7.out.cell 2;clear hs7 hn7 hg7 hr7 ho7 C4;go_wp2_with fail;clear fr2 cr2;refine (err_gen D8.out).mono ?_;generalize w7.setCell ⟨gx,2,none⟩ (.slice at' nt ct)=w8 at *;rintro _ w' ⟨rfl,hw'⟩;subst w';have O8:Hid (Only [r,gx] w5 w8):=Ξ (HV.out.on.trans O7.out (fun b hb=>.inl hb));have ZR:=Ξ (WB.out w8 O8.out);have cz0:=ZR.out.2.c 0 (.int .u64 0);have cz1:=ZR.out.2.c 1 (.slice none 0 0);have cz2:=ZR.out.2.c 2 (.slice none 0 0);have fz0:w8.frozen? ⟨w.heap.size,0,none⟩=false:=ZR.out.2.free 0;have fz1:w8.frozen? ⟨w.heap.size,1,none⟩=false:=ZR.out.2.free 1;have fz2:w8.frozen? ⟨w.heap.size,2,none⟩=false:=ZR.out.2.free 2;by_cases he4:e4=0
     ·subst he4;have LF8:=Ξ (left_on D8.out);by_cases hx4:0<x4.length
      ·have dx:decide ((0:Int)<(x4.length:Int))=true:=Γ (by omega);have dx':decide (0<x4.length)=true:=Γ hx4;have RN:Hid (rdItem b=none):=Ξ (by rw [RI.out,if_neg (by have:=HM.out;have:=HQ.out;omega),if_pos (.inr (.inl hx4))]);clear hx4;go_wp2_with fail;refine LF8.out.mono ?_;rintro _ w' ⟨rfl,hw'⟩;subst w';go_wp2_with fail;refine bodyPost_ret (results_it3_tmp rfl _ _ w.heap.size _ rfl rfl (rowset3 ZR.out.2)) rfl ?_;exact HNO.out _ (((ZR.out.1.setCell (by simp) _).setCell (by simp) _).setCell (by simp) _) RN.out
      ·have dx:decide ((0:Int)<(x4.length:Int))=false:=Λ (by omega);have dx':decide (0<x4.length)=false:=Λ hx4;have cc0:=R8.out.c 0 (.int .u64 key);have cc1:=R8.out.c 1 (.slice a i c);have cc2:=R8.out.c 2 (.slice at' nt ct);by_cases hi:i=0
       ·have RN:Hid (rdItem b=none):=Ξ (by rw [RI.out,if_neg (by have:=HM.out;have:=HQ.out;omega),if_pos (.inr (.inr hi))]);have IM:Hid (Calls prog 112 #[.agg #[.int .u64 key,.slice a i c,.slice at' nt ct]] w8 fun e w'=>e=.returned (.int .i64 9)∧Below w8.heap.size w8 w'):=Ξ (by have h:=item_zero (key:=key) (vec:=⟨a,c,L⟩) (tag:=⟨at',ct,tt⟩) (by rw [HLL.out.1];exact hi) w8;simp only [HLL.out.1,H7.out.2.1] at h;exact h)
        clear hi hx4;clear cz0 cz1 cz2 fz0 fz1 fz2 ZR;go_wp2_with fail;refine LF8.out.mono ?_;rintro _ w' ⟨rfl,hw'⟩;subst w';go_wp2_with fail;refine IM.out.mono ?_;rintro _ w9 ⟨rfl,hb9⟩;have O9:=Ξ (O8.out.below hb9);clear hb9;have ZR:=Ξ (WB.out w9 O9.out);have cz0:=ZR.out.2.c 0 (.int .u64 0);have cz1:=ZR.out.2.c 1 (.slice none 0 0);have cz2:=ZR.out.2.c 2 (.slice none 0 0);have fz0:w9.frozen? ⟨w.heap.size,0,none⟩=false:=ZR.out.2.free 0;have fz1:w9.frozen? ⟨w.heap.size,1,none⟩=false:=ZR.out.2.free 1;have fz2:w9.frozen? ⟨w.heap.size,2,none⟩=false:=ZR.out.2.free 2;go_wp2_with fail;refine bodyPost_ret (results_it3_tmp rfl _ _ w.heap.size _ rfl rfl (rowset3 ZR.out.2)) rfl ?_;exact HNO.out _ (((ZR.out.1.setCell (by simp) _).setCell (by simp) _).setCell (by simp) _) RN.out
       ·have RS:Hid (rdItem b=some (key,L,tt)):=Ξ (by rw [RI.out,if_neg (by have:=HM.out;have:=HQ.out;omega),if_neg (fun h=>h.elim (fun h=>h rfl) (fun h=>h.elim hx4 hi)),HLL.out.2]);have IM:Hid (Calls prog 112 #[.agg #[.int .u64 key,.slice a i c,.slice at' nt ct]] w8 fun e w'=>e=.returned (.int .i64 0)∧Below w8.heap.size w8 w'):=Ξ (by have h:=item_ok (key:=key) (vec:=⟨a,c,L⟩) (tag:=⟨at',ct,tt⟩) (w:=w8) (by rw [HLL.out.1];omega) (by rw [HLL.out.1];have:=HM.out;omega) HT.out.2;unfold Sl.v at h;simp only [HLL.out.1,H7.out.2.1] at h;exact h)
        clear hi hx4;clear cz0 cz1 cz2 fz0 fz1 fz2 ZR;go_wp2_with fail;refine LF8.out.mono ?_;rintro _ w' ⟨rfl,hw'⟩;subst w';go_wp2_with fail;refine IM.out.mono ?_;rintro _ w9 ⟨rfl,hb9⟩;have O9:=Ξ (O8.out.below hb9);have R9:=R8.out.only ((Ω [] w8).below hb9) (by simp);have g0:=R9.c 0 (.int .u64 key);have g1:=R9.c 1 (.slice a i c);have g2:=R9.c 2 (.slice at' nt ct);have S9:Hid (SlRd .i32 w9 ⟨a,c,L⟩∧SlRd .u8 w9 ⟨at',ct,tt⟩):=Ξ ⟨S8.out.1.only ((Ω [] w8).below hb9) (by simp),S8.out.2.1.only ((Ω [] w8).below hb9) (by simp)⟩;clear hb9 R9 cc0 cc1 cc2;have ZR:=Ξ (WB.out w9 O9.out);have cz0:=ZR.out.2.c 0 (.int .u64 0);have cz1:=ZR.out.2.c 1 (.slice none 0 0);have cz2:=ZR.out.2.c 2 (.slice none 0 0);have fz0:w9.frozen? ⟨w.heap.size,0,none⟩=false:=ZR.out.2.free 0;have fz1:w9.frozen? ⟨w.heap.size,1,none⟩=false:=ZR.out.2.free 1;have fz2:w9.frozen? ⟨w.heap.size,2,none⟩=false:=ZR.out.2.free 2;go_wp2_with fail;refine bodyPost_ret (results_it3_tmp rfl _ _ w.heap.size _ rfl rfl (rowset3 ZR.out.2)) rfl ?_;have k9:Only [w.heap.size] w9 (((w9.setCell ⟨w.heap.size,0,none⟩ (.int .u64 key)).setCell ⟨w.heap.size,1,none⟩ (.slice a i c)).setCell ⟨w.heap.size,2,none⟩ (.slice at' nt ct)):=(((Ω [w.heap.size] w9).setCell (.inl (by simp)) _).setCell (.inl (by simp)) _).setCell (.inl (by simp)) _;have hlt:w.heap.size<w5.heap.size:=(WB.out w5 (Ω _ _)).2.lt;exact ⟨key,a,i,c,L,at',nt,ct,tt,0,rfl,S9.out.1.only k9 (fun _ x hx=>by have:=S8.out.2.2 x (by simp [hx]);simp;omega),HLL.out.1,S9.out.2.only k9 (fun _ x hx=>by have:=S8.out.2.2 x (by simp [hx]);simp;omega),H7.out.2.1,fun x hx=>by have:=S8.out.2.2 x hx;omega,.inl ⟨RS.out,rfl⟩,((ZR.out.1.setCell (by simp) _).setCell (by simp) _).setCell (by simp) _⟩
     ·have de:(e4 != 0)=true:=by simp [he4]
      have RN:Hid (rdItem b=none):=Ξ (by rw [RI.out,if_neg (by have:=HM.out;have:=HQ.out;omega),if_pos (.inl he4)]);clear he4;go_wp2_with fail;refine bodyPost_ret (results_it3_tmp rfl _ _ w.heap.size _ rfl rfl (rowset3 ZR.out.2)) rfl ?_;exact HNO.out _ (((ZR.out.1.setCell (by simp) _).setCell (by simp) _).setCell (by simp) _) RN.out
theorem rdItem_ok{b:List Int}(hb:IsBy b){k:Int}{v t:List Int}(h:rdItem b=some (k,v,t)):0≤k∧k<18446744073709551616∧0<v.length∧v.length≤4096∧(∀ z∈v,-2147483648≤z∧z<2147483648)∧t.length≤1024∧IsBy t:=by
 have h1:=fixF_range 8 b 0 hb;have hx:=fixF_by 8 hb 0;have h2:=lst32_range (fixF 8 b 0).2.1 (fixF 8 b 0).2.2 hx;have h3:=txtF_ok 1024 (lstF 4 (fixF 8 b 0).2.1 (fixF 8 b 0).2.2).2.1 (lstF 4 (fixF 8 b 0).2.1 (fixF 8 b 0).2.2).2.2 (lstF_by 4 hx _);unfold rdItem at h;simp only at h;split at h
 ·simp at h
 ·split at h
  ·simp at h
  ·rename_i hn
   simp only [Option.some.injEq,Prod.mk.injEq] at h;obtain ⟨rfl,rfl,rfl⟩:=h;refine ⟨h1.1,by have:=h1.2;omega,?_,h2.2,h2.1,h3.2,h3.1⟩;rw [List.length_map];simp only [not_or] at hn;omega
theorem clo_put{r c1 g5:Nat}{s:Sl}{w:World}(h:SlRd .u8 w s)(hb:IsBy s.xs)(h0:1≤s.xs.length)(hsc:s.xs.length≤s.c)(hc:w.cell? ⟨c1,0,none⟩=some s.v)(hg:Row w g5 (bareCells 2) tRq) :
  Calls prog 129 #[.pointer (some ⟨c1,0,none⟩),.pointer (some ⟨g5,0,none⟩)] w (CloTo r g5 (putC (rdItem (s.xs.drop 1))) w):=by
 have e2:∀ y:World,(Instr.slice 30 (.slice s.a s.xs.length s.c) (some (.int .i64 ((1:Nat):Int))) none none).run prog y=.ok (s.cut 1 s.xs.length).v y:=fun y=>run_tail underlying30 infoBy .i64 s (by omega) y;have e2':∀ y:World,(Instr.slice 30 (.slice s.a s.xs.length s.c) (some (.int .i64 1)) none none).run prog y=.ok (s.cut 1 s.xs.length).v y:=e2;have hcut:(s.cut 1 s.xs.length).xs=s.xs.drop 1:=by unfold Sl.cut;simp only;exact List.take_of_length_le (by simp)
 have IR:=Ξ (itread_on (w:=w) (s:=s.cut 1 s.xs.length) (h.cut h0 (Θ _) hsc) (by rw [hcut];exact hb.drop 1));rw [hcut] at IR;have HD:=Ξ (hb.drop 1);have RG:=Ξ hg;unfold bareCells at RG;obtain ⟨v,hv⟩:∃ v,(s.cut 1 s.xs.length).v=v:=⟨_,rfl⟩;rw [hv] at e2' IR;unfold Sl.v at hc;clear e2 hcut hv h hb h0 hg hsc;generalize s.xs.drop 1=b at *;go_enter func129,ntmps129;go_wp2_with fail;refine IR.out.mono ?_;rintro _ w1 ⟨k,a1,n1,cc1,vv,a2,n2,cc2,tt,er,rfl,hs1,hn1,hs2,hn2,hbs,hr,hb1⟩;have H1:=Ξ (Ψ hs1 (Ψ hn1 (Ψ hs2 (Ψ hn2 (Ψ hbs (Ψ hr hb1))))));have R1:=Ξ (RG.out.only ((Ω [] w).below hb1) (by simp));have LT:=Ξ RG.out.lt;have f1:=R1.out.free 1;have f2:=R1.out.free 2;have f3:=R1.out.free 3;have d1:=R1.out.c 1 (.int .u64 0);have d2:=R1.out.c 2 (.slice none 0 0);have d3:=R1.out.c 3 (.slice none 0 0);clear hs1 hn1 hs2 hn2 hbs hr hb1 IR;go_wp2_with fail;refine bodyPost_ret (results_none rfl _ _ _) rfl ?_;obtain ⟨hs1,hn1,hs2,hn2,hbs,hr,hb1⟩:=H1.out;have ko:Only [g5] w1 (((w1.setCell ⟨g5,1,none⟩ (.int .u64 k)).setCell ⟨g5,2,none⟩ (.slice a1 n1 cc1)).setCell ⟨g5,3,none⟩ (.slice a2 n2 cc2)):=(((Ω [g5] w1).setCell (.inl (by simp)) _).setCell (.inl (by simp)) _).setCell (.inl (by simp)) _;refine ⟨⟨2,⟨k,⟨a1,cc1,vv⟩,⟨a2,cc2,tt⟩⟩,0,0,0,Sl.no,Sl.no,0⟩,rfl,by simpa [Rq.cells,Sl.v,Sl.no,hn1,hn2] using ((R1.out.set 1 (.int .u64 k)).set 2 (.slice a1 n1 cc1)).set 3 (.slice a2 n2 cc2),?_,?_,(((Ω [g5] w).below (hb1.mono (Θ _))).trans ko (fun b hb=>.inl hb)).mono (by simp),fun b hb=>hbs b (by simpa [Sl.no,Sl.bs] using hb)⟩
 ·have q1:=hs1.only ko (fun _ x hx=>by have:=hbs x (by simp [hx]);have:=LT.out;simp;omega);have q2:=hs2.only ko (fun _ x hx=>by have:=hbs x (by simp [hx]);have:=LT.out;simp;omega);rcases hr with ⟨hr,_⟩|⟨_,rfl,rfl,rfl,_⟩
  ·obtain ⟨k0,k1,v0,v1,vr,t1,tb⟩:=rdItem_ok HD.out hr;exact Rq.Shape.put k ⟨a1,cc1,vv⟩ ⟨a2,cc2,tt⟩ k0 k1 q1 vr q2 tb (.inl ⟨v0,v1,t1⟩)
  ·exact Rq.Shape.put 0 ⟨a1,cc1,[]⟩ ⟨a2,cc2,[]⟩ (by omega) (by omega) q1 (by simp) q2 IsBy.nil (.inr ⟨rfl,by simp⟩)
 ·rcases hr with ⟨hr,_⟩|⟨hr,rfl,rfl,rfl,_⟩
  ·rw [hr];rfl
  ·rw [hr];rfl
theorem mayask_bad(k:Int)(hk:k=0∨11<k)(w:World):Calls prog 183 #[.agg (bareCells k)] w fun e w'=>e=.returned (.bool false)∧Below w.heap.size w w':=by
 have b1:(k == 1)=false:=by simp;omega
 have b2:(k == 2)=false:=by simp;omega
 have b3:(k == 3)=false:=by simp;omega
 have b4:(k == 4)=false:=by simp;omega
 have b5:(k == 5)=false:=by simp;omega
 have b6:(k == 6)=false:=by simp;omega
 have b7:(k == 7)=false:=by simp;omega
 have b8:(k == 8)=false:=by simp;omega
 have b9:(k == 9)=false:=by simp;omega
 have b10:(k == 10)=false:=by simp;omega
 have b11:(k == 11)=false:=by simp;omega
 unfold bareCells;clear hk;go_enter func183,ntmps183;go_wp2_with fail;go_ret;exact ⟨rfl,((Δ _ w).alloc (Θ _) _).alloc (by simp) _⟩
def AskNo(w:World)(e:Ending)(w':World):Prop:=e=.returned (.tuple #[.slice none 0 0,.int .i64 2])∧Below w.heap.size w w'
theorem ask_no{x:Rq}{w:World}(h:∀ y,Below w.heap.size w y→Calls prog 183 #[.agg x.cells] y fun e w'=>e=.returned (.bool false)∧Below y.heap.size y w'):Calls prog 140 #[.agg x.cells] w (AskNo w):=by have MA:=Ξ h;clear h;unfold Rq.cells Sl.v at MA ⊢;have BA:=Ξ fun (o:Obj)=>(Δ _ w).alloc (Θ _) o;go_enter func140,ntmps140;go_wp2_with fail;refine (MA.out _ (BA.out _)).mono ?_;rintro _ w2 ⟨rfl,hb2⟩;have B2:Hid (Below w.heap.size w w2):=Ξ ((BA.out _).trans (hb2.mono (BA.out _).size));clear hb2 MA BA;go_wp2_with fail;go_ret2;exact ⟨rfl,B2.out⟩
def AskR(c:Qc)(w:World)(e:Ending)(w':World):Prop:=(c.may=true∧AskTo c.form w e w')∨(c.may=false∧AskNo w e w')
theorem SlRd.bel{q:IntKind}{w w':World}{s:Sl}(h:SlRd q w s)(k:Below w.heap.size w w'):SlRd q w' s:=h.only ((Ω [] w).below k) (by simp)
theorem ask_on{x:Rq}{w:World}(h:x.Shape w):Calls prog 140 #[.agg x.cells] w (AskR x.c w):=by
 cases h with
 | bare k h0 h1 h=>
  by_cases hk:k=1∨k=7∨k=8∨k=9
  ·refine (ask_bare k hk w).mono fun e w' z=>.inl ⟨by unfold Qc.may Rq.c Rq.bare;simp only;rw [if_neg (by omega),if_neg (by omega),if_neg (by omega),if_neg (by omega),if_neg (by omega)];exact Γ hk,?_⟩;rw [show (Rq.bare k).c.form=[k] by unfold Qc.form Rq.c Rq.bare;simp only;rw [if_neg (by omega),if_neg (by omega),if_neg (by omega),if_neg (by omega),if_neg (by omega),if_neg (by omega)]];exact z
  ·refine (ask_no (x:=Rq.bare k) fun y hy=>mayask_bad k (by omega) y).mono fun e w' z=>.inr ⟨?_,z⟩;unfold Qc.may Rq.c Rq.bare;simp only;rw [if_neg (by omega),if_neg (by omega),if_neg (by omega),if_neg (by omega),if_neg (by omega)];exact Λ hk
 | put key vec tag k0 k1 hv vr ht hb h=>
  by_cases hz:vec.xs.length=0
  ·refine (ask_no (x:=⟨2,⟨key,vec,tag⟩,0,0,0,Sl.no,Sl.no,0⟩) fun y hy=>?_).mono fun e w' z=>.inr ⟨by unfold Qc.may Rq.c;simp [hz],z⟩;have q:=mayask_put key vec tag y (hv.bel hy) (ht.bel hy) hb (.inr hz);rw [show decide (okE vec.xs.length tag.xs.length=0)=false by unfold okE;rw [if_pos (by omega)];rfl] at q;exact q
  ·obtain ⟨v0,v4,t1⟩:0<vec.xs.length∧vec.xs.length≤4096∧tag.xs.length≤1024:=by rcases h with h|h;exact h;exact absurd h.1 hz
   exact (ask_put key vec tag w k0 k1 hv ht hb v0 v4 t1).mono fun e w' z=>.inl ⟨by unfold Qc.may Rq.c;simp only [if_true];exact Γ v0,z⟩
 | key k key h k0 k1=>
  refine (ask_key k h key w k0 k1).mono fun e w' z=>.inl ⟨by unfold Qc.may Rq.c;simp only;rw [if_neg (by omega),if_pos h],?_⟩;unfold Qc.form Rq.c;simp only;rw [if_neg (by omega),if_pos h];exact z
 | range key hi n k0 k1 h0 h1 n0 n1=>
  by_cases hn:n≤50
  ·exact (ask_range key hi n w k0 k1 h0 h1 n0 hn).mono fun e w' z=>.inl ⟨by unfold Qc.may Rq.c;simp;exact hn,z⟩
  ·refine (ask_no (x:=⟨5,Rc3.no,key,hi,n,Sl.no,Sl.no,0⟩) fun y hy=>?_).mono fun e w' z=>.inr ⟨by unfold Qc.may Rq.c;simp;omega,z⟩;have q:=mayask_range key hi n y n0;rw [Λ hn] at q;exact q
 | knn n q n0 n1 hq qr q4=>
  by_cases hn:n≤50
  ·exact (ask_knn n q w n0 hn hq qr q4).mono fun e w' z=>.inl ⟨by unfold Qc.may Rq.c;simp;exact hn,z⟩
  ·refine (ask_no (x:=⟨6,Rc3.no,0,0,n,q,Sl.no,0⟩) fun y hy=>?_).mono fun e w' z=>.inr ⟨by unfold Qc.may Rq.c;simp;omega,z⟩;have q':=mayask_knn n q y n0 (hq.bel hy) q4;rw [Λ hn] at q';exact q'
 | putf key sc tag fl k0 k1 s0 s1 ht hb t1 hf fr f4=>
  by_cases hs : -64≤sc∧sc≤64
  ·exact (ask_putf key sc tag fl w k0 k1 hs.1 hs.2 hf fr f4 ht hb t1).mono fun e w' z=>.inl ⟨by unfold Qc.may Rq.c;simp;omega,z⟩
  ·refine (ask_no (x:=⟨10,⟨key,Sl.no,tag⟩,0,0,0,Sl.no,fl,sc⟩) fun y hy=>?_).mono fun e w' z=>.inr ⟨by unfold Qc.may Rq.c;simp;omega,z⟩;have q':=mayask_putf key sc tag fl y (ht.bel hy) hb (hf.bel hy) f4 t1;rw [show (decide (-64≤sc) && decide (sc≤64))=false by simp;omega] at q';exact q'
 | knnf n sc fl n0 n1 s0 s1 hf fr f4=>
  by_cases hs:n≤50∧-64≤sc∧sc≤64
  ·exact (ask_knnf n sc fl w n0 hs.1 hs.2.1 hs.2.2 hf fr f4).mono fun e w' z=>.inl ⟨by unfold Qc.may Rq.c;simp;omega,z⟩
  ·refine (ask_no (x:=⟨11,Rc3.no,0,0,n,Sl.no,fl,sc⟩) fun y hy=>?_).mono fun e w' z=>.inr ⟨by unfold Qc.may Rq.c;simp;omega,z⟩;have q':=mayask_knnf n sc fl y n0 (hf.bel hy) f4;rw [show (decide (n≤50) && (decide (-64≤sc) && decide (sc≤64)))=false by simp;omega] at q';exact q'
theorem rowset10{y:World}{g:Nat}{T:TypeId}{o0 o1 o2 o3 o4 o5 o6 o7 o8 o9 v0 v1 v2 v3 v4 v5 v6 v7 v8 v9:Value}(h:Row y g #[o0,o1,o2,o3,o4,o5,o6,o7,o8,o9] T):Row ((((((((((y.setCell ⟨g,0,none⟩ v0).setCell ⟨g,1,none⟩ v1).setCell ⟨g,2,none⟩ v2).setCell ⟨g,3,none⟩ v3).setCell ⟨g,4,none⟩ v4).setCell ⟨g,5,none⟩ v5).setCell ⟨g,6,none⟩ v6).setCell ⟨g,7,none⟩ v7).setCell ⟨g,8,none⟩ v8).setCell ⟨g,9,none⟩ v9) g #[v0,v1,v2,v3,v4,v5,v6,v7,v8,v9] T∧Only [g] y ((((((((((y.setCell ⟨g,0,none⟩ v0).setCell ⟨g,1,none⟩ v1).setCell ⟨g,2,none⟩ v2).setCell ⟨g,3,none⟩ v3).setCell ⟨g,4,none⟩ v4).setCell ⟨g,5,none⟩ v5).setCell ⟨g,6,none⟩ v6).setCell ⟨g,7,none⟩ v7).setCell ⟨g,8,none⟩ v8).setCell ⟨g,9,none⟩ v9):=by refine ⟨?_,((((((((((Ω [g] y).setCell (.inl (by simp)) _).setCell (.inl (by simp)) _).setCell (.inl (by simp)) _).setCell (.inl (by simp)) _).setCell (.inl (by simp)) _).setCell (.inl (by simp)) _).setCell (.inl (by simp)) _).setCell (.inl (by simp)) _).setCell (.inl (by simp)) _).setCell (.inl (by simp)) _⟩;simpa using (((((((((h.set 0 v0).set 1 v1).set 2 v2).set 3 v3).set 4 v4).set 5 v5).set 6 v6).set 7 v7).set 8 v8).set 9 v9
def AskRdTo(b:List Int)(w:World)(e:Ending)(w':World):Prop:=∃ (x:Rq) (er:Int),e=.returned (.tuple #[.agg x.cells,.int .i64 er])∧x.Shape w'∧((askQ b=some x.c∧er=0)∨(askQ b=none∧x=Rq.bare 0∧er=4))∧Below w.heap.size w w'∧∀ y∈x.it.vec.bs++x.it.tag.bs++x.q.bs++x.fl.bs,w.heap.size≤y
theorem Rq.Shape.only{w w':World}{x:Rq}{G:List Nat}(h:x.Shape w)(k:Only G w w')(hG:∀ b∈x.it.vec.bs++x.it.tag.bs++x.q.bs++x.fl.bs,b∉G):x.Shape w':=by
 cases h with
 | bare k h0 h1 h=>exact .bare k h0 h1 h
 | put key vec tag k0 k1 hv vr ht hb h=>exact .put key vec tag k0 k1 (hv.only k fun _ b hb=>hG b (by simp [hb])) vr (ht.only k fun _ b hb=>hG b (by simp [hb])) hb h
 | key k key h k0 k1=>exact .key k key h k0 k1
 | range key hi n k0 k1 h0 h1 n0 n1=>exact .range key hi n k0 k1 h0 h1 n0 n1
 | knn n q n0 n1 hq qr q4=>exact .knn n q n0 n1 (hq.only k fun _ b hb=>hG b (by simp [hb])) qr q4
 | putf key sc tag fl k0 k1 s0 s1 ht hb t1 hf fr f4=>exact .putf key sc tag fl k0 k1 s0 s1 (ht.only k fun _ b hb=>hG b (by simp [hb])) hb t1 (hf.only k fun _ b hb=>hG b (by simp [hb])) fr f4
 | knnf n sc fl n0 n1 s0 s1 hf fr f4=>exact .knnf n sc fl n0 n1 s0 s1 (hf.only k fun _ b hb=>hG b (by simp [hb])) fr f4
theorem Rq.Shape.below{w w':World}{x:Rq}(h:x.Shape w)(k:Below w.heap.size w w'):x.Shape w':=h.only ((Ω [] w).below k) (by simp)
theorem fix1_pos{b:List Int}{k:Int}{x:List Int}{e:Int}(h:fixF 1 b 0=(k,x,e))(hk:k≠0):1≤b.length:=by
 unfold fixF at h;rw [if_neg (by simp)] at h;split at h
 ·simp only [Prod.mk.injEq] at h;exact absurd h.1.symm hk
 ·omega
theorem form_by{c:Qc}(h:c.may=true)(hk:0≤c.kind∧c.kind<256)(hn:0≤c.n)(ht:IsBy c.tag):IsBy c.form:=by
 unfold Qc.form;unfold Qc.may at h;have h2:=IsBy.one (show (0:Int)≤2 by omega) (by omega);split
 ·exact h2.append (itemB_by ht)
 ·split
  ·exact (IsBy.one hk.1 hk.2).append (leB_by _ _)
  ·split
   ·rw [if_neg (by omega),if_neg (by omega),if_pos (by omega)] at h;exact (((IsBy.one (by omega) (by omega)).append (leB_by _ _)).append (leB_by _ _)).append (IsBy.one hn (by have:=of_decide_eq_true h;omega))
   ·split
    ·rw [if_neg (by omega),if_neg (by omega),if_pos (by omega)] at h;exact ((IsBy.one (by omega) (by omega)).append (IsBy.one hn (by have:=of_decide_eq_true h;omega))).append ((uvB_by _).append (vecB_by _))
    ·split
     ·exact ((((IsBy.one (by omega) (by omega)).append (leB_by _ _)).append (IsBy.one (by omega) (by omega))).append ((uvB_by _).append (flsB_by _))).append ((uvB_by _).append ht)
     ·split
      ·rw [if_neg (by omega),if_neg (by omega),if_neg (by omega),if_neg (by omega),if_pos (by omega)] at h;exact (((IsBy.one (by omega) (by omega)).append (IsBy.one hn (by have:=(Bool.and_eq_true _ _ ▸ h).1;have:=of_decide_eq_true this;omega))).append (IsBy.one (by omega) (by omega))).append ((uvB_by _).append (flsB_by _))
      ·exact IsBy.one hk.1 hk.2
theorem Rq.Shape.ks{w:World}{x:Rq}(h:x.Shape w):(0≤x.c.kind∧x.c.kind<256)∧0≤x.c.n∧IsBy x.c.tag:=by
 cases h with
 | bare k h0 h1 h=>exact ⟨⟨h0,h1⟩,Int.le_refl _,IsBy.nil⟩
 | put key vec tag k0 k1 hv vr ht hb h=>exact ⟨⟨show (0:Int)≤2 by omega,show (2:Int)<256 by omega⟩,Int.le_refl _,hb⟩
 | key k key h k0 k1=>exact ⟨⟨show (0:Int)≤k by omega,show k<256 by omega⟩,Int.le_refl _,IsBy.nil⟩
 | range key hi n k0 k1 h0 h1 n0 n1=>exact ⟨⟨show (0:Int)≤5 by omega,show (5:Int)<256 by omega⟩,n0,IsBy.nil⟩
 | knn n q n0 n1 hq qr q4=>exact ⟨⟨show (0:Int)≤6 by omega,show (6:Int)<256 by omega⟩,n0,IsBy.nil⟩
 | putf key sc tag fl k0 k1 s0 s1 ht hb t1 hf fr f4=>exact ⟨⟨show (0:Int)≤10 by omega,show (10:Int)<256 by omega⟩,Int.le_refl _,hb⟩
 | knnf n sc fl n0 n1 s0 s1 hf fr f4=>exact ⟨⟨show (0:Int)≤11 by omega,show (11:Int)<256 by omega⟩,n0,IsBy.nil⟩
theorem lk_upQ{k j:Int}{v:Value}:∀ {L:List (Int×Value)},lk j (up k v L)=if j=k then some v else lk j L
 | []=>by simp [up,lk]
 | (i,u) :: r=>by
  simp only [up];by_cases e:k=i
  ·rw [if_pos e];subst e;simp only [lk];by_cases h:j=k
   ·rw [if_pos h,if_pos h]
   ·rw [if_neg h,if_neg h,if_neg h]
  ·rw [if_neg e];simp only [lk];rw [lk_upQ (L:=r)];by_cases h:j=i
   ·rw [if_pos h,if_pos h,if_neg (by omega)]
   ·rw [if_neg h,if_neg h]
theorem Rq.Shape.len{w:World}{x:Rq}(h:x.Shape w):x.c.form.length≤1000000:=by
 cases h with
 | bare k h0 h1 h=>
  unfold Qc.form Rq.c Rq.bare;simp only;rw [if_neg (by omega),if_neg (by omega),if_neg (by omega),if_neg (by omega),if_neg (by omega),if_neg (by omega)];simp
 | put key vec tag k0 k1 hv vr ht hb h=>
  have h1:vec.xs.length≤4096:=by rcases h with h|h;exact h.2.1;omega
  have h2:=ht.le;have:=uvB_len 3 vec.xs.length (by omega) (by omega);have:=uvB_len 3 tag.xs.length (by omega) (by omega);have h3:tag.xs.length≤1024∨1024<tag.xs.length:=by omega
  have e:(Rq.c ⟨2,⟨key,vec,tag⟩,0,0,0,Sl.no,Sl.no,0⟩).form=[2]++itemB (key,vec.xs,tag.xs):=rfl;rw [e];unfold itemB textB;simp only [List.length_append,leB_len,vecB_len,List.length_cons,List.length_nil];rcases h with h|h
  ·omega
  ·omega
 | key k key h k0 k1=>
  unfold Qc.form Rq.c;simp only;rw [if_neg (by omega),if_pos h];simp [leB_len]
 | range key hi n k0 k1 h0 h1 n0 n1=>
  have e:(Rq.c ⟨5,Rc3.no,key,hi,n,Sl.no,Sl.no,0⟩).form=[5]++leB key 8++leB hi 8++[n]:=rfl;rw [e];simp [leB_len]
 | knn n q n0 n1 hq qr q4=>
  have:=uvB_len 3 q.xs.length (by omega) (by omega);have e:(Rq.c ⟨6,Rc3.no,0,0,n,q,Sl.no,0⟩).form=[6]++[n]++(uvB q.xs.length++vecB q.xs):=rfl;rw [e];simp only [List.length_append,vecB_len,List.length_cons,List.length_nil];omega
 | putf key sc tag fl k0 k1 s0 s1 ht hb t1 hf fr f4=>
  have:=uvB_len 3 fl.xs.length (by omega) (by omega);have:=uvB_len 3 tag.xs.length (by omega) (by omega);have e:(Rq.c ⟨10,⟨key,Sl.no,tag⟩,0,0,0,Sl.no,fl,sc⟩).form=[10]++leB key 8++[sc % 256]++(uvB fl.xs.length++flsB fl.xs)++textB tag.xs:=rfl;rw [e];unfold textB;simp only [List.length_append,leB_len,flsB_len,List.length_cons,List.length_nil];omega
 | knnf n sc fl n0 n1 s0 s1 hf fr f4=>
  have:=uvB_len 3 fl.xs.length (by omega) (by omega);have e:(Rq.c ⟨11,Rc3.no,0,0,n,Sl.no,fl,sc⟩).form=[11]++[n]++[sc % 256]++(uvB fl.xs.length++flsB fl.xs):=rfl;rw [e];simp only [List.length_append,flsB_len,List.length_cons,List.length_nil];omega
def RdX(b:List Int)(r g5:Nat)(m7 wc:World):Prop:=∃ x:Rq,Row wc g5 x.cells tRq∧x.Shape wc∧x.c=readQ b∧Only [r,g5] m7 wc∧∀ y∈x.it.vec.bs++x.it.tag.bs++x.q.bs++x.fl.bs,m7.heap.size≤y
theorem readask_on{s:Sl}{w:World}(h:SlRd .u8 w s)(hb:IsBy s.xs)(hsc:s.xs.length≤s.c):Calls prog 76 #[s.v] w (AskRdTo s.xs w):=by
 obtain ⟨b,hbx⟩:∃ b,s.xs=b:=⟨_,rfl⟩;have HS:=Ξ (Ψ h (Ψ hb (Ψ hsc hbx)));have HBY:Hid (IsBy b):=Ξ (by rw [←hbx];exact hb);have hmm:=@run_makeMap prog;have hmf:=hmf_;have NR:=Ξ fun (y:World) (hy:Below w.heap.size w y)=>newrd_on (h.only ((Ω [] w).below hy) (by simp));obtain ⟨k,x1,e1,hq⟩:∃ v x ee,fixF 1 b 0=(v,x,ee):=⟨_,_,_,rfl⟩;have HQ:=Ξ hq;have HK:Hid (0≤k∧k<256∧IsBy x1):=Ξ (by have h1:=fixF_range 1 b 0 HBY.out;have h2:=fixF_by 1 HBY.out 0;rw [hq] at h1 h2;exact ⟨h1.1,by have:=h1.2;omega,h2⟩)
 have U8:Hid (∀ y r,RdrAt y r b 0→Calls prog 100 #[.pointer (some ⟨r,0,none⟩)] y fun z w'=>z=.returned (.int .u8 k)∧RdrAt w' r x1 e1∧Only [r] y w'):=Ξ fun y r hy=>by
  have h:=rdU8 hy HBY.out
  rwa [hq] at h
 have wk:IntKind.i64.wrap k=k:=IntWalk.i64_in _ (by have:=HK.out;omega);unfold NewRdTo at NR;rw [hbx] at NR;have B1:Hid (Below w.heap.size w ((w.alloc (.cells #[s.v] 30)).alloc (.cells (bareCells 0) tRq))):=Ξ (((Δ _ w).alloc (Θ _) _).alloc (by simp) _);have R1:Hid (Row ((w.alloc (.cells #[s.v] 30)).alloc (.cells (bareCells 0) tRq)) w.heap.size #[s.v] 30):=Ξ ((Φ w _ _).only ((Ω [] _).alloc _) (by simp));have R2:Hid (Row ((w.alloc (.cells #[s.v] 30)).alloc (.cells (bareCells 0) tRq)) (w.heap.size+1) (bareCells 0) tRq):=Ξ (by
  have h:=Φ (w.alloc (.cells #[s.v] 30)) (bareCells 0) tRq
  rwa [World.size_alloc] at h)
 unfold Sl.v at NR B1 R1 R2 ⊢;rw [hbx];obtain ⟨n,hn⟩:∃ n,b.length=n:=⟨_,rfl⟩;rw [hbx] at NR B1 R1 R2;rw [hn] at NR B1 R1 R2 ⊢;have HN:=Ξ hn;clear h hb hsc hbx hq hn;go_enter func76,ntmps76;go_wp2_with fail;refine (NR.out _ B1.out).mono ?_;unfold bareCells at B1 R1 R2;generalize (w.alloc (.cells #[.slice s.a n s.c] 30)).alloc _=w1 at *;rintro _ w2 ⟨r,rfl,hr,hb2,hr2⟩;have O12:=Ξ ((Ω [] w1).below hb2);have HR:=Ξ (Ψ hr hr2);clear hr hb2 hr2 NR;go_wp2_with fail;obtain ⟨c4,hc4⟩:∃ c4,w2.heap.size=c4:=⟨_,rfl⟩;have C4:Hid (r<c4):=Ξ (by obtain ⟨s,_,hr,_⟩:=HR.out.1.at_;have:=hr.lt;omega);have R4:Hid (Row (w2.alloc (.cells #[.pointer (some ⟨r,0,none⟩)] 191)) c4 #[.pointer (some ⟨r,0,none⟩)] 191):=Ξ (by rw [←hc4];exact Φ _ _ _);have O24:Hid (Only [] w2 (w2.alloc (.cells #[.pointer (some ⟨r,0,none⟩)] 191))):=Ξ ((Ω [] w2).alloc _);have U83:=Ξ (U8.out (w2.alloc (.cells #[.pointer (some ⟨r,0,none⟩)] 191)) r (HR.out.1.below (O24.out.toBelow (Θ _) (by simp))));refine U83.out.mono ?_;generalize w2.alloc (.cells #[.pointer (some ⟨r,0,none⟩)] 191)=w3 at *;rw [hc4];rintro _ w4 ⟨rfl,hr4,h4⟩;have O34:Hid (Only [r] w3 w4):=Ξ h4;have D4:=Ξ hr4;have G4:=Ξ hc4;clear hr4 h4 U8 U83 hc4;obtain ⟨g5,hg5⟩:∃ g5,w4.heap.size=g5:=⟨_,rfl⟩;have G5:=Ξ hg5;have R5:Hid (Row ((w4.alloc (.cells (bareCells k) tRq)).alloc (.map #[] 0)) g5 (bareCells k) tRq):=Ξ (by rw [←hg5];exact (Φ w4 _ _).only ((Ω [] _).alloc _) (by simp));have M5:Hid (MapAt ((w4.alloc (.cells (bareCells k) tRq)).alloc (.map #[] 0)) (g5+1) .i64 []):=Ξ (by have h:=MapAt.made (w4.alloc (.cells (bareCells k) tRq)) .i64;rw [World.size_alloc,hg5] at h;exact h)
 have O45:Hid (Only [] w4 ((w4.alloc (.cells (bareCells k) tRq)).alloc (.map #[] 0))):=Ξ (((Ω [] w4).alloc _).alloc _);unfold bareCells at R5 M5 O45;go_wp2_with (refine wpList_insert_at _ rfl (.tmp 16) (.const (.int .i64 2)) (.tmp 17) 218 rfl 47 1 .i64 underlying218 underlying47 _ [] rfl M5.out 2 (.func (.func 129) #[] #[.pointer (some ⟨w.heap.size,0,none⟩),.pointer (some ⟨g5,0,none⟩)]) rfl rfl ?_);intro m1 hm1 ho1 hz1;have N1:=Ξ hm1;have P1:=Ξ ho1;clear hm1 ho1 hz1;go_wp2_with (refine wpList_insert_at _ rfl (.tmp 16) (.const (.int .i64 3)) (.tmp 18) 218 rfl 47 1 .i64 underlying218 underlying47 _ _ rfl N1.out 3 (.func (.func 130) #[] #[.pointer (some ⟨c4,0,none⟩),.pointer (some ⟨g5,0,none⟩)]) rfl rfl ?_);intro m2 hm2 ho2 hz2;have N2:=Ξ hm2;have P2:=Ξ ho2;clear hm2 ho2 hz2;go_wp2_with (refine wpList_insert_at _ rfl (.tmp 16) (.const (.int .i64 4)) (.tmp 19) 218 rfl 47 1 .i64 underlying218 underlying47 _ _ rfl N2.out 4 (.func (.func 131) #[] #[.pointer (some ⟨c4,0,none⟩),.pointer (some ⟨g5,0,none⟩)]) rfl rfl ?_);intro m3 hm3 ho3 hz3;have N3:=Ξ hm3;have P3:=Ξ ho3;clear hm3 ho3 hz3;go_wp2_with (refine wpList_insert_at _ rfl (.tmp 16) (.const (.int .i64 5)) (.tmp 20) 218 rfl 47 1 .i64 underlying218 underlying47 _ _ rfl N3.out 5 (.func (.func 132) #[] #[.pointer (some ⟨c4,0,none⟩),.pointer (some ⟨g5,0,none⟩)]) rfl rfl ?_);intro m4 hm4 ho4 hz4;have N4:=Ξ hm4;have P4:=Ξ ho4;clear hm4 ho4 hz4;go_wp2_with (refine wpList_insert_at _ rfl (.tmp 16) (.const (.int .i64 6)) (.tmp 21) 218 rfl 47 1 .i64 underlying218 underlying47 _ _ rfl N4.out 6 (.func (.func 133) #[] #[.pointer (some ⟨c4,0,none⟩),.pointer (some ⟨g5,0,none⟩)]) rfl rfl ?_);intro m5 hm5 ho5 hz5;have N5:=Ξ hm5;have P5:=Ξ ho5;clear hm5 ho5 hz5;go_wp2_with (refine wpList_insert_at _ rfl (.tmp 16) (.const (.int .i64 10)) (.tmp 22) 218 rfl 47 1 .i64 underlying218 underlying47 _ _ rfl N5.out 10 (.func (.func 137) #[] #[.pointer (some ⟨c4,0,none⟩),.pointer (some ⟨g5,0,none⟩)]) rfl rfl ?_);intro m6 hm6 ho6 hz6;have N6:=Ξ hm6;have P6:=Ξ ho6;clear hm6 ho6 hz6;go_wp2_with (refine wpList_insert_at _ rfl (.tmp 16) (.const (.int .i64 11)) (.tmp 23) 218 rfl 47 1 .i64 underlying218 underlying47 _ _ rfl N6.out 11 (.func (.func 139) #[] #[.pointer (some ⟨c4,0,none⟩),.pointer (some ⟨g5,0,none⟩)]) rfl rfl ?_);intro m7 hm7 ho7 hz7;have N7:=Ξ hm7;have P7:=Ξ ho7;clear hm7 ho7 hz7;have RL:=Ξ (((((((R5.out.only P1.out (by simp)).only P2.out (by simp)).only P3.out (by simp)).only P4.out (by simp)).only P5.out (by simp)).only P6.out (by simp)).only P7.out (by simp));have TT:∀ {x y:World},Only [] w4 x→Only [g5+1] x y→Only [] w4 y:=fun h k=>h.trans k (by intro i hi;right;simp at hi;have:=G5.out;omega);have OL:=Ξ (TT (TT (TT (TT (TT (TT (TT O45.out P1.out) P2.out) P3.out) P4.out) P5.out) P6.out) P7.out);clear TT;obtain ⟨L,hL⟩:∃ L,(up 11 (.func (.func 139) #[] #[.pointer (some ⟨c4,0,none⟩),.pointer (some ⟨g5,0,none⟩)]) (up 10 (.func (.func 137) #[] #[.pointer (some ⟨c4,0,none⟩),.pointer (some ⟨g5,0,none⟩)]) (up 6 (.func (.func 133) #[] #[.pointer (some ⟨c4,0,none⟩),.pointer (some ⟨g5,0,none⟩)]) (up 5 (.func (.func 132) #[] #[.pointer (some ⟨c4,0,none⟩),.pointer (some ⟨g5,0,none⟩)]) (up 4 (.func (.func 131) #[] #[.pointer (some ⟨c4,0,none⟩),.pointer (some ⟨g5,0,none⟩)]) (up 3 (.func (.func 130) #[] #[.pointer (some ⟨c4,0,none⟩),.pointer (some ⟨g5,0,none⟩)]) (up 2 (.func (.func 129) #[] #[.pointer (some ⟨w.heap.size,0,none⟩),.pointer (some ⟨g5,0,none⟩)]) [])))))))=L:=⟨_,rfl⟩;have HLU:=Ξ hL;obtain ⟨fv,hfv⟩:∃ fv,(lk k L).getD .nilFunc=fv:=⟨_,rfl⟩;have LK:=Ξ hfv;have WAYS:Hid ((fv=.nilFunc∧(k=0∨k=1∨(7≤k∧k≤9)∨11<k))∨(k=2∧fv=.func (.func 129) #[] #[.pointer (some ⟨w.heap.size,0,none⟩),.pointer (some ⟨g5,0,none⟩)])∨(k=3∧fv=.func (.func 130) #[] #[.pointer (some ⟨c4,0,none⟩),.pointer (some ⟨g5,0,none⟩)])∨(k=4∧fv=.func (.func 131) #[] #[.pointer (some ⟨c4,0,none⟩),.pointer (some ⟨g5,0,none⟩)])∨(k=5∧fv=.func (.func 132) #[] #[.pointer (some ⟨c4,0,none⟩),.pointer (some ⟨g5,0,none⟩)])∨(k=6∧fv=.func (.func 133) #[] #[.pointer (some ⟨c4,0,none⟩),.pointer (some ⟨g5,0,none⟩)])∨(k=10∧fv=.func (.func 137) #[] #[.pointer (some ⟨c4,0,none⟩),.pointer (some ⟨g5,0,none⟩)])∨(k=11∧fv=.func (.func 139) #[] #[.pointer (some ⟨c4,0,none⟩),.pointer (some ⟨g5,0,none⟩)])):=Ξ (by
  rw [←hfv,←hL];by_cases h2:k=2
  ·subst h2;exact .inr (.inl ⟨rfl,rfl⟩)
  by_cases h3:k=3
  ·subst h3;exact .inr (.inr (.inl ⟨rfl,rfl⟩))
  by_cases h4:k=4
  ·subst h4;exact .inr (.inr (.inr (.inl ⟨rfl,rfl⟩)))
  by_cases h5:k=5
  ·subst h5;exact .inr (.inr (.inr (.inr (.inl ⟨rfl,rfl⟩))))
  by_cases h6:k=6
  ·subst h6;exact .inr (.inr (.inr (.inr (.inr (.inl ⟨rfl,rfl⟩)))))
  by_cases h10:k=10
  ·subst h10;exact .inr (.inr (.inr (.inr (.inr (.inr (.inl ⟨rfl,rfl⟩))))))
  by_cases h11:k=11
  ·subst h11;exact .inr (.inr (.inr (.inr (.inr (.inr (.inr (⟨rfl,rfl⟩)))))))
  exact .inl ⟨by simp only [lk_upQ,if_neg h2,if_neg h3,if_neg h4,if_neg h5,if_neg h6,if_neg h10,if_neg h11];rfl,by have:=HK.out;omega⟩)
 have NT:∃ tf,(tf=true↔fv≠.nilFunc)∧(∀ w:World,(eqGuard BinOp.neq 1 (Operand.tmp 29) (Operand.const Value.nilFunc) fv .nilFunc).run prog w=.ok () w)∧∀ w:World,(binOp .neq 1 fv .nilFunc).run prog w=.ok (.bool tf) w:=by
  have h:=WAYS.out;rcases h with ⟨rfl,_⟩|⟨_,rfl⟩|⟨_,rfl⟩|⟨_,rfl⟩|⟨_,rfl⟩|⟨_,rfl⟩|⟨_,rfl⟩|⟨_,rfl⟩
  ·exact ⟨false,by simp,fun w=>by first|rfl|kernel_rfl,fun w=>by first|rfl|kernel_rfl⟩
  all_goals exact ⟨true,by simp,fun w=>by first|rfl|kernel_rfl,fun w=>by first|rfl|kernel_rfl⟩
 obtain ⟨tf,htf,ng,nf⟩:=NT;have TF:=Ξ htf;have NK:Hid (MapAt m7 (g5+1) .i64 L):=Ξ (by rw [←hL];exact N7.out);have lk0:=RL.out.c 0 (.int .i64 k);have O14:Hid (Only [] w1 w4):=Ξ ((O12.out.trans O24.out (by simp)).trans O34.out (by intro i hi;right;simp at hi;have:=HR.out.2;omega));have O1:=Ξ (O14.out.trans OL.out (by simp));have GG:Hid (w1.heap.size≤r∧r<c4∧c4<g5∧w.heap.size+1<w1.heap.size):=Ξ (by have h3:=R4.out.lt;have h4:=O34.out.size;have h5:=G5.out;exact ⟨HR.out.2,C4.out,by omega,R2.out.lt⟩)
 have R1':=Ξ (R1.out.only O1.out (by simp));have R2':=Ξ (R2.out.only O1.out (by simp));have BM:=Ξ (B1.out.trans (O1.out.toBelow B1.out.size (by simp)));have R47:Hid (Row m7 c4 #[.pointer (some ⟨r,0,none⟩)] 191):=Ξ ((R4.out.only O34.out (by have:=GG.out;simp;omega)).only OL.out (by simp));have D7:Hid (RdrAt m7 r x1 e1):=Ξ (D4.out.below (OL.out.toBelow (Θ _) (by simp)));clear N1 N2 N3 N4 N5 N6 N7 P1 P2 P3 P4 P5 P6 P7 R5 M5 hL hfv htf hg5 R1 R2 O12 O24 O34 O45 R4 D4 HLU;go_upto_if 30 with (at_lookup;refine wpList_look_to _ rfl (.tmp 25) (.tmp 27) 218 rfl 47 1 .i64 underlying218 underlying47 .nilFunc zeroFn (g5+1) L rfl NK.out k rfl fv LK.out ?_);go_cut [7] from 31 to 32 (fun s7 wc=>s7=fv∧Hid (RdX b r g5 m7 wc))
 case first=>
  have W:=WAYS.out;rcases W with ⟨rfl,hk⟩|⟨rfl,rfl⟩|⟨rfl,rfl⟩|⟨rfl,rfl⟩|⟨rfl,rfl⟩|⟨rfl,rfl⟩|⟨rfl,rfl⟩|⟨rfl,rfl⟩
  ·have FN:Hid (RdX b r g5 m7 m7):=Ξ ⟨Rq.bare k,RL.out,Rq.Shape.bare k HK.out.1 HK.out.2.1 hk,by unfold readQ;rw [HQ.out];simp only;rw [if_neg (by omega),if_neg (by omega),if_neg (by omega),if_neg (by omega),if_neg (by omega),if_neg (by omega)];rfl,Ω _ _,by simp [Rq.bare,Rc3.no,Sl.no,Sl.bs]⟩;obtain rfl:tf=false:=by cases tf with|false=>rfl|true=>exact absurd rfl (TF.out.1 rfl)
   clear hk;go_wp2_with fail;go_meet;exact ⟨rfl,FN⟩
  ·have CC:=Ξ (clo_put (r:=r) (c1:=w.heap.size) (g5:=g5) (s:=s) (HS.out.1.only ((Ω [] w).below BM.out) (by simp)) HS.out.2.1 (by rw [HS.out.2.2.2];exact fix1_pos HQ.out (by omega)) HS.out.2.2.1 (by unfold Sl.v;rw [HS.out.2.2.2,HN.out];exact R1'.out.cell 0) RL.out);obtain rfl:tf=true:=TF.out.2 (by simp);unfold CloTo at CC;clear nf ng;go_wp2_with fail;refine CC.out.mono ?_;rintro _ w8 ⟨x,rfl,hx1,hx2,hx3,hx4,hx5⟩;have FN:Hid (RdX b r g5 m7 w8):=Ξ ⟨x,hx1,hx2,hx3.trans (by rw [HS.out.2.2.2];unfold readQ;rw [HQ.out];rfl),hx4,hx5⟩;clear hx1 hx2 hx3 hx4 hx5 CC;go_wp2_with fail;go_meet;exact ⟨rfl,FN⟩
  ·have CC:=Ξ (clo_key2 (r:=r) (c4:=c4) (g5:=g5) D7.out HK.out.2.2 (R47.out.cell 0) RL.out GG.out.2.1 GG.out.2.2.1);obtain rfl:tf=true:=TF.out.2 (by simp);unfold CloTo at CC;clear nf ng;go_wp2_with fail;refine CC.out.mono ?_;rintro _ w8 ⟨x,rfl,hx1,hx2,hx3,hx4,hx5⟩;have FN:Hid (RdX b r g5 m7 w8):=Ξ ⟨x,hx1,hx2,hx3.trans (by unfold readQ;rw [HQ.out];rfl),hx4,hx5⟩;clear hx1 hx2 hx3 hx4 hx5 CC;go_wp2_with fail;go_meet;exact ⟨rfl,FN⟩
  ·have CC:=Ξ (clo_key3 (r:=r) (c4:=c4) (g5:=g5) D7.out HK.out.2.2 (R47.out.cell 0) RL.out GG.out.2.1 GG.out.2.2.1);obtain rfl:tf=true:=TF.out.2 (by simp);unfold CloTo at CC;clear nf ng;go_wp2_with fail;refine CC.out.mono ?_;rintro _ w8 ⟨x,rfl,hx1,hx2,hx3,hx4,hx5⟩;have FN:Hid (RdX b r g5 m7 w8):=Ξ ⟨x,hx1,hx2,hx3.trans (by unfold readQ;rw [HQ.out];rfl),hx4,hx5⟩;clear hx1 hx2 hx3 hx4 hx5 CC;go_wp2_with fail;go_meet;exact ⟨rfl,FN⟩
  ·have CC:=Ξ (clo_range (r:=r) (c4:=c4) (g5:=g5) D7.out HK.out.2.2 (R47.out.cell 0) RL.out GG.out.2.1 GG.out.2.2.1);obtain rfl:tf=true:=TF.out.2 (by simp);unfold CloTo at CC;clear nf ng;go_wp2_with fail;refine CC.out.mono ?_;rintro _ w8 ⟨x,rfl,hx1,hx2,hx3,hx4,hx5⟩;have FN:Hid (RdX b r g5 m7 w8):=Ξ ⟨x,hx1,hx2,hx3.trans (by unfold readQ;rw [HQ.out];rfl),hx4,hx5⟩;clear hx1 hx2 hx3 hx4 hx5 CC;go_wp2_with fail;go_meet;exact ⟨rfl,FN⟩
  ·have CC:=Ξ (clo_knn (r:=r) (c4:=c4) (g5:=g5) D7.out HK.out.2.2 (R47.out.cell 0) RL.out GG.out.2.1 GG.out.2.2.1);obtain rfl:tf=true:=TF.out.2 (by simp);unfold CloTo at CC;clear nf ng;go_wp2_with fail;refine CC.out.mono ?_;rintro _ w8 ⟨x,rfl,hx1,hx2,hx3,hx4,hx5⟩;have FN:Hid (RdX b r g5 m7 w8):=Ξ ⟨x,hx1,hx2,hx3.trans (by unfold readQ;rw [HQ.out];rfl),hx4,hx5⟩;clear hx1 hx2 hx3 hx4 hx5 CC;go_wp2_with fail;go_meet;exact ⟨rfl,FN⟩
  ·have CC:=Ξ (clo_putf (r:=r) (c4:=c4) (g5:=g5) D7.out HK.out.2.2 (R47.out.cell 0) RL.out GG.out.2.1 GG.out.2.2.1);obtain rfl:tf=true:=TF.out.2 (by simp);unfold CloTo at CC;clear nf ng;go_wp2_with fail;refine CC.out.mono ?_;rintro _ w8 ⟨x,rfl,hx1,hx2,hx3,hx4,hx5⟩;have FN:Hid (RdX b r g5 m7 w8):=Ξ ⟨x,hx1,hx2,hx3.trans (by unfold readQ;rw [HQ.out];rfl),hx4,hx5⟩;clear hx1 hx2 hx3 hx4 hx5 CC;go_wp2_with fail;go_meet;exact ⟨rfl,FN⟩
  ·have CC:=Ξ (clo_knnf (r:=r) (c4:=c4) (g5:=g5) D7.out HK.out.2.2 (R47.out.cell 0) RL.out GG.out.2.1 GG.out.2.2.1);obtain rfl:tf=true:=TF.out.2 (by simp);unfold CloTo at CC;clear nf ng;go_wp2_with fail;refine CC.out.mono ?_;rintro _ w8 ⟨x,rfl,hx1,hx2,hx3,hx4,hx5⟩;have FN:Hid (RdX b r g5 m7 w8):=Ξ ⟨x,hx1,hx2,hx3.trans (by unfold readQ;rw [HQ.out];rfl),hx4,hx5⟩;clear hx1 hx2 hx3 hx4 hx5 CC;go_wp2_with fail;go_meet;exact ⟨rfl,FN⟩
 case rest=>
  obtain ⟨rfl,HC⟩:=hcut;rename World=>wc;obtain ⟨x,hx1,hx2,hx3,hx4,hx5⟩:=HC.out;have HX:=Ξ (Ψ hx1 (Ψ hx2 (Ψ hx3 hx4)));have HB:=Ξ hx5;have KC:Hid (Only [] w1 wc):=Ξ (O1.out.trans hx4 (by intro i hi;right;simp at hi;have:=GG.out;omega));have Rb:=Ξ (R1'.out.only hx4 (by have:=GG.out;simp;omega));have Rr:=Ξ (R2'.out.only hx4 (by have:=GG.out;simp;omega));have BC:Hid (Below w.heap.size w wc):=Ξ (BM.out.trans (hx4.toBelow BM.out.size (by intro i hi;simp at hi;have:=GG.out;omega)));have AK:=Ξ (ask_on hx2);obtain ⟨xk,⟨ik,vec,tag⟩,key,hi,nn,q,fl,sc⟩:=x;have RX:Hid (Row wc g5 #[.int .i64 xk,.int .u64 ik,.slice vec.a vec.xs.length vec.c,.slice tag.a tag.xs.length tag.c,.int .u64 key,.int .u64 hi,.int .i64 nn,.slice q.a q.xs.length q.c,.slice fl.a fl.xs.length fl.c,.int .i64 sc] tRq):=Ξ hx1;unfold Rq.cells Sl.v at AK;simp only at AK;obtain ⟨lc0,lc1,lc2,lc3,lc4,lc5,lc6,lc7,lc8,lc9⟩:=RX.out.cs10;clear hx1 hx2 hx3 hx4 hx5 HC lk0 nf ng;go_wp2_with fail;refine AK.out.mono ?_;rintro e8 w8 (⟨hmay,v,rfl,ho,hb8⟩|⟨hmay,rfl,hb8⟩)
  ·have B8:=Ξ (BC.out.trans (hb8.mono BC.out.size));have Rb8:=Ξ (Rb.out.only ((Ω [] wc).below hb8) (by simp));have Rr8:=Ξ (Rr.out.only ((Ω [] wc).below hb8) (by simp));have RX8:=Ξ (RX.out.only ((Ω [] wc).below hb8) (by simp));have HX8:=Ξ (HX.out.2.1.below hb8);have KS:=HX.out.2.1.ks;have FBY:=Ξ (form_by hmay KS.1 KS.2.1 KS.2.2);obtain ⟨F,hF⟩:∃ F,Qc.form (Rq.c ⟨xk,⟨ik,vec,tag⟩,key,hi,nn,q,fl,sc⟩)=F:=⟨_,rfl⟩;have FLEN:=Ξ HX.out.2.1.len;rw [hF] at ho FBY FLEN;have HF:Hid (Qc.form (readQ b)=F∧Qc.may (readQ b)=true):=Ξ ⟨by rw [←HX.out.2.2.1];exact hF,by rw [←HX.out.2.2.1];exact hmay⟩;obtain ⟨s2,rfl,e2,hs2,_,_⟩:=own_sl ho FLEN.out;have BE:=Ξ (byeq hs2 (HS.out.1.only ((Ω [] w).below B8.out) (by simp)) (by rw [e2];exact FBY.out) HS.out.2.1);rw [e2,HS.out.2.2.2] at BE;have b1:=Rb8.out.c 0 (.slice s.a n s.c);have ES:s.v=.slice s.a n s.c:=by unfold Sl.v;rw [HS.out.2.2.2,HN.out]
   rw [ES] at BE;obtain ⟨v2,hv2⟩:∃ v2,s2.v=v2:=⟨_,rfl⟩;rw [hv2] at BE ⊢;clear hv2 hs2 e2 ho hb8 AK Rb hmay KS hF ES lc0 lc1 lc2 lc3 lc4 lc5 lc6 lc7 lc8 lc9;by_cases hEq:F=b
   ·rw [Γ hEq] at BE;have HE:=Ξ hEq;clear hEq;go_wp2_with fail;refine BE.out.mono ?_;rintro _ w9 ⟨rfl,hb9⟩;have B9:=Ξ (B8.out.trans (hb9.mono B8.out.size));have RX9:=RX8.out.only ((Ω [] w8).below hb9) (by simp);have Rr9:=Ξ (Rr8.out.only ((Ω [] w8).below hb9) (by simp));have HX9:=Ξ (HX8.out.below hb9);obtain ⟨nc0,nc1,nc2,nc3,nc4,nc5,nc6,nc7,nc8,nc9⟩:=RX9.cs10;obtain ⟨zc0,zc1,zc2,zc3,zc4,zc5,zc6,zc7,zc8,zc9⟩:=Rr9.out.cs10;obtain ⟨fc0,fc1,fc2,fc3,fc4,fc5,fc6,fc7,fc8,fc9⟩:=Rr9.out.fs10;clear hb9 BE RX9;go_wp2_with fail;refine bodyPost_ret (results_rq_tmp rfl _ _ (w.heap.size+1) _ rfl rfl (rowset10 Rr9.out).1) rfl ?_;refine ⟨⟨xk,⟨ik,vec,tag⟩,key,hi,nn,q,fl,sc⟩,0,rfl,HX9.out.only (rowset10 Rr9.out).2 (fun y hy=>by have h1:=HB.out y hy;have h2:=O1.out.size;have h3:=GG.out;simp;omega),.inl ⟨?_,rfl⟩,B9.out.trans ((rowset10 Rr9.out).2.toBelow B9.out.size (by simp)),fun y hy=>by have h1:=HB.out y hy;have h2:=O1.out.size;have h3:=GG.out;omega⟩;unfold askQ;rw [if_pos ⟨HF.out.2,by rw [HF.out.1,HE.out]⟩,HX.out.2.2.1]
   ·rw [Λ hEq] at BE;have HE:=Ξ hEq;clear hEq;go_wp2_with fail;refine BE.out.mono ?_;rintro _ w9 ⟨rfl,hb9⟩;have B9:=Ξ (B8.out.trans (hb9.mono B8.out.size));have Rr9:=Ξ (Rr8.out.only ((Ω [] w8).below hb9) (by simp));obtain ⟨zc0,zc1,zc2,zc3,zc4,zc5,zc6,zc7,zc8,zc9⟩:=Rr9.out.cs10;obtain ⟨fc0,fc1,fc2,fc3,fc4,fc5,fc6,fc7,fc8,fc9⟩:=Rr9.out.fs10;clear hb9 BE;go_wp2_with fail;refine bodyPost_ret (results_rq_tmp rfl _ _ (w.heap.size+1) _ rfl rfl (rowset10 Rr9.out).1) rfl ?_;refine ⟨Rq.bare 0,4,rfl,Rq.Shape.bare 0 (by omega) (by omega) (.inl rfl),.inr ⟨?_,rfl,rfl⟩,B9.out.trans ((rowset10 Rr9.out).2.toBelow B9.out.size (by simp)),by simp [Rq.bare,Rc3.no,Sl.no,Sl.bs]⟩;unfold askQ;rw [if_neg fun h=>HE.out (by rw [←HF.out.1];exact h.2)]
  ·have B8:=Ξ (BC.out.trans (hb8.mono BC.out.size));have Rr9:=Ξ (Rr.out.only ((Ω [] wc).below hb8) (by simp));have HM:Hid (Qc.may (readQ b)=false):=Ξ (by rw [←HX.out.2.2.1];exact hmay);obtain ⟨zc0,zc1,zc2,zc3,zc4,zc5,zc6,zc7,zc8,zc9⟩:=Rr9.out.cs10;obtain ⟨fc0,fc1,fc2,fc3,fc4,fc5,fc6,fc7,fc8,fc9⟩:=Rr9.out.fs10;clear hb8 AK hmay lc0 lc1 lc2 lc3 lc4 lc5 lc6 lc7 lc8 lc9;go_wp2_with fail;refine bodyPost_ret (results_rq_tmp rfl _ _ (w.heap.size+1) _ rfl rfl (rowset10 Rr9.out).1) rfl ?_;refine ⟨Rq.bare 0,4,rfl,Rq.Shape.bare 0 (by omega) (by omega) (.inl rfl),.inr ⟨?_,rfl,rfl⟩,B8.out.trans ((rowset10 Rr9.out).2.toBelow B8.out.size (by simp)),by simp [Rq.bare,Rc3.no,Sl.no,Sl.bs]⟩;unfold askQ;rw [if_neg fun h=>by rw [HM.out] at h;exact absurd h.1 (by simp)]
def ItR(w:World)(a:Option Addr)(its:List Rc3):Prop:=its.length≤100000∧∀ j x,its[j]? = some x→x.At w∧∃ b o,a=some ⟨b,o,none⟩∧b<w.heap.size∧w.cell? ⟨b,o+j * 3,none⟩=some (.int .u64 x.key)∧w.cell? ⟨b,o+j * 3+1,none⟩=some x.vec.v∧w.cell? ⟨b,o+j * 3+2,none⟩=some x.tag.v
theorem ItR.below{w w':World}{a:Option Addr}{its:List Rc3}(h:ItR w a its)(k:Below w.heap.size w w'):ItR w' a its:=⟨h.1,fun j x hj=>by obtain ⟨h1,b,o,e,hb,c0,c1,c2⟩:=h.2 j x hj;exact ⟨h1.below k,b,o,e,Nat.lt_of_lt_of_le hb k.size,by rw [k.cell (p:=⟨b,o+j * 3,none⟩) hb];exact c0,by rw [k.cell (p:=⟨b,o+j * 3+1,none⟩) hb];exact c1,by rw [k.cell (p:=⟨b,o+j * 3+2,none⟩) hb];exact c2⟩⟩
def HtR(w:World)(a:Option Addr)(hs:List (Int×Int)):Prop:=hs.length≤100000∧∀ j x,hs[j]? = some x→∃ b o,a=some ⟨b,o,none⟩∧b<w.heap.size∧w.cell? ⟨b,o+j * 2,none⟩=some (.int .u64 x.1)∧w.cell? ⟨b,o+j * 2+1,none⟩=some (.int .i64 x.2)
theorem HtR.below{w w':World}{a:Option Addr}{hs:List (Int×Int)}(h:HtR w a hs)(k:Below w.heap.size w w'):HtR w' a hs:=⟨h.1,fun j x hj=>by obtain ⟨b,o,e,hb,c0,c1⟩:=h.2 j x hj;exact ⟨b,o,e,Nat.lt_of_lt_of_le hb k.size,by rw [k.cell (p:=⟨b,o+j * 2,none⟩) hb];exact c0,by rw [k.cell (p:=⟨b,o+j * 2+1,none⟩) hb];exact c1⟩⟩
theorem ItR.nil(w:World)(a:Option Addr):ItR w a []:=⟨by simp,fun j x h=>by simp at h⟩
theorem HtR.nil(w:World)(a:Option Addr):HtR w a []:=⟨by simp,fun j x h=>by simp at h⟩
def Rc3.Ok(x:Rc3):Prop:=0<x.vec.xs.length∧x.vec.xs.length≤4096∧x.tag.xs.length≤1024∧0≤x.key∧x.key<18446744073709551616
theorem itmay_ok{x:Rc3}(h:x.Ok)(w:World):Calls prog 112 #[.agg #[.int .u64 x.key,x.vec.v,x.tag.v]] w fun e w'=>e=.returned (.int .i64 0)∧Below w.heap.size w w':=item_ok h.1 h.2.1 h.2.2.1
theorem bad1_no{x:Rc3}(h:x.Ok)(w:World):Calls prog 114 #[.agg #[.int .u64 x.key,x.vec.v,x.tag.v]] w fun e w'=>e=.returned (.bool false)∧Below w.heap.size w w':=by have IM:=Ξ (itmay_ok h);have B1:=Ξ fun (o:Obj)=>(Δ _ w).alloc (Θ _) o;unfold Sl.v at IM ⊢;clear h;go_enter func114,ntmps114;go_wp2_with fail;refine (IM.out _).mono ?_;rintro _ w2 ⟨rfl,hb2⟩;have B2:Hid (Below w.heap.size w w2):=Ξ ((B1.out _).trans (hb2.mono (B1.out _).size));clear hb2 IM B1;go_wp2_with fail;go_ret;exact ⟨rfl,B2.out⟩
theorem bad2_no(k d:Int)(h:0≤d)(w:World):Calls prog 116 #[.agg #[.int .u64 k,.int .i64 d]] w fun e w'=>e=.returned (.bool false)∧Below w.heap.size w w':=by have d1:decide (d<0)=false:=Λ (by omega);have B1:=Ξ fun (o:Obj)=>(Δ _ w).alloc (Θ _) o;clear h;go_enter func116,ntmps116;go_wp2_with fail;go_ret;exact ⟨rfl,B1.out _⟩
theorem idx_items{w:World}{a:Option Addr}{n c:Nat}{its:List Rc3}(h:ItR w a its)(hn:its.length=n)(hok:∀ x∈its,x.Ok) :
  Calls prog 175 #[.slice a n c,.func (.func 114) #[] #[]] w fun e w'=>e=.returned (.int .i64 (-1))∧Below w.heap.size w w':=by
 have HR:=Ξ (Ψ h (Ψ hn hok));have HL:Hid (n≤100000):=Ξ (by rw [←hn];exact h.1);clear h hn hok;go_enter func175,ntmps175;go_wp2_with fail;go_loopw [8] (fun u wr=>∃ j:Nat,u=.int .i64 (j:Int)∧Hid (j≤n)∧Hid (Below w.heap.size w wr)) (fun u _=>n-(intOf u).toNat)
 case atStart=>exact ⟨0,rfl,Ξ (Nat.zero_le _),Ξ (Δ _ _)⟩
 case round=>
  obtain ⟨j,rfl,HJ,HB⟩:=hrel;rename World=>w3;have ej:IntKind.i64.wrap ((j:Int)+1)=((j+1:Nat):Int):=IntWalk.i64_in _ (by have:=HJ.out;have:=HL.out;omega);by_cases hlt:j<n
  ·have d1:decide ((j:Int)<(n:Int))=true:=Γ (by omega);have d1':decide (j<n)=true:=Γ hlt;have j3:(j:Int)<(n:Int):=(by omega);have JL:=Ξ hlt;obtain ⟨x,hx⟩:∃ x,its[j]? = some x:=⟨_,List.getElem?_eq_getElem (by rw [HR.out.2.1];exact hlt)⟩;obtain ⟨h1,b,o,rfl,hb,c0,c1,c2⟩:=(HR.out.1.below HB.out).2 j x hx;have CC:=Ξ (bad1_no (HR.out.2.2 x (List.mem_of_getElem? hx)) w3);obtain ⟨xk,xv,xt⟩:=x;unfold Sl.v at c1 c2 CC;simp only at c0 c1 c2 CC;clear h1 hb;clear hlt hx;go_wp2_with fail;refine CC.out.mono ?_;rintro _ w4 ⟨rfl,hb4⟩;have B4:=Ξ (HB.out.trans (hb4.mono HB.out.size));clear hb4 CC;go_wp2_with fail;go_roundw;case rel=>exact ⟨j+1,by go_num,Ξ (by have:=JL.out;omega),B4⟩
   case measure=>have:=JL.out;simp [intOf];omega
  ·have d1:decide ((j:Int)<(n:Int))=false:=Λ (by omega);have d1':decide (j<n)=false:=Λ hlt;clear hlt;go_wp2_with fail;go_ret;exact ⟨rfl,HB.out⟩
theorem no_bad_items{w:World}{a:Option Addr}{n c:Nat}{its:List Rc3}(h:ItR w a its)(hn:its.length=n)(hok:∀ x∈its,x.Ok) :
  Calls prog 113 #[.slice a n c,.func (.func 114) #[] #[]] w fun e w'=>e=.returned (.bool false)∧Below w.heap.size w w':=by
 have I:=Ξ (idx_items (c:=c) h hn hok);clear h hn hok;go_enter func113,ntmps113;go_wp2_with fail;refine I.out.mono ?_;rintro _ w2 ⟨rfl,hb2⟩;have B2:=Ξ hb2;clear hb2 I;go_wp2_with fail;go_ret;exact ⟨rfl,B2.out⟩
theorem idx_hits{w:World}{a:Option Addr}{n c:Nat}{its:List (Int×Int)}(h:HtR w a its)(hn:its.length=n)(hok:∀ x∈its,0≤x.2) :
  Calls prog 176 #[.slice a n c,.func (.func 116) #[] #[]] w fun e w'=>e=.returned (.int .i64 (-1))∧Below w.heap.size w w':=by
 have HR:=Ξ (Ψ h (Ψ hn hok));have HL:Hid (n≤100000):=Ξ (by rw [←hn];exact h.1);clear h hn hok;go_enter func176,ntmps176;go_wp2_with fail;go_loopw [8] (fun u wr=>∃ j:Nat,u=.int .i64 (j:Int)∧Hid (j≤n)∧Hid (Below w.heap.size w wr)) (fun u _=>n-(intOf u).toNat)
 case atStart=>exact ⟨0,rfl,Ξ (Nat.zero_le _),Ξ (Δ _ _)⟩
 case round=>
  obtain ⟨j,rfl,HJ,HB⟩:=hrel;rename World=>w3;have ej:IntKind.i64.wrap ((j:Int)+1)=((j+1:Nat):Int):=IntWalk.i64_in _ (by have:=HJ.out;have:=HL.out;omega);by_cases hlt:j<n
  ·have d1:decide ((j:Int)<(n:Int))=true:=Γ (by omega);have d1':decide (j<n)=true:=Γ hlt;have j3:(j:Int)<(n:Int):=(by omega);have JL:=Ξ hlt;obtain ⟨x,hx⟩:∃ x,its[j]? = some x:=⟨_,List.getElem?_eq_getElem (by rw [HR.out.2.1];exact hlt)⟩;obtain ⟨b,o,rfl,hb,c0,c1⟩:=(HR.out.1.below HB.out).2 j x hx;have CC:=Ξ (bad2_no x.1 x.2 (HR.out.2.2 x (List.mem_of_getElem? hx)) w3);obtain ⟨xk,xd⟩:=x;simp only at c0 c1 CC;clear hb;clear hlt hx;go_wp2_with fail;refine CC.out.mono ?_;rintro _ w4 ⟨rfl,hb4⟩;have B4:=Ξ (HB.out.trans (hb4.mono HB.out.size));clear hb4 CC;go_wp2_with fail;go_roundw;case rel=>exact ⟨j+1,by go_num,Ξ (by have:=JL.out;omega),B4⟩
   case measure=>have:=JL.out;simp [intOf];omega
  ·have d1:decide ((j:Int)<(n:Int))=false:=Λ (by omega);have d1':decide (j<n)=false:=Λ hlt;clear hlt;go_wp2_with fail;go_ret;exact ⟨rfl,HB.out⟩
theorem no_bad_hits{w:World}{a:Option Addr}{n c:Nat}{its:List (Int×Int)}(h:HtR w a its)(hn:its.length=n)(hok:∀ x∈its,0≤x.2) :
  Calls prog 115 #[.slice a n c,.func (.func 116) #[] #[]] w fun e w'=>e=.returned (.bool false)∧Below w.heap.size w w':=by
 have I:=Ξ (idx_hits (c:=c) h hn hok);clear h hn hok;go_enter func115,ntmps115;go_wp2_with fail;refine I.out.mono ?_;rintro _ w2 ⟨rfl,hb2⟩;have B2:=Ξ hb2;clear hb2 I;go_wp2_with fail;go_ret;exact ⟨rfl,B2.out⟩
theorem rc3_same{x:Rc3}{w:World}(h:x.At w):Calls prog 177 #[.agg #[.int .u64 x.key,x.vec.v,x.tag.v],.agg #[.int .u64 x.key,x.vec.v,x.tag.v]] w fun e w'=>e=.returned (.bool true)∧Below w.heap.size w w':=by
 have q:=itsame h h
 rwa [show decide (x.c=x.c)=true from Γ rfl] at q
theorem eqf_same{w:World}{a:Option Addr}{n c:Nat}{its:List Rc3}(h:ItR w a its)(hn:its.length=n) :
  Calls prog 178 #[.slice a n c,.slice a n c,.func (.func 177) #[] #[]] w fun e w'=>e=.returned (.bool true)∧Below w.heap.size w w':=by
 have HR:=Ξ (Ψ h hn);have HL:Hid (n≤100000):=Ξ (by rw [←hn];exact h.1);have nn:((n:Int) != (n:Int))=false:=by simp
 clear h hn;go_enter func178,ntmps178;go_wp2_with fail;go_loopw [17] (fun u wr=>∃ j:Nat,u=.int .i64 (j:Int)∧Hid (j≤n)∧Hid (Below w.heap.size w wr)) (fun u _=>n-(intOf u).toNat)
 case atStart=>exact ⟨0,rfl,Ξ (Nat.zero_le _),Ξ (Δ _ _)⟩
 case round=>
  obtain ⟨j,rfl,HJ,HB⟩:=hrel;rename World=>w3;have ej:IntKind.i64.wrap ((j:Int)+1)=((j+1:Nat):Int):=IntWalk.i64_in _ (by have:=HJ.out;have:=HL.out;omega);by_cases hlt:j<n
  ·have d1:decide ((j:Int)<(n:Int))=true:=Γ (by omega);have d1':decide (j<n)=true:=Γ hlt;have j3:(j:Int)<(n:Int):=(by omega);have JL:=Ξ hlt;obtain ⟨x,hx⟩:∃ x,its[j]? = some x:=⟨_,List.getElem?_eq_getElem (by rw [HR.out.2];exact hlt)⟩;obtain ⟨h1,b,o,rfl,hb,c0,c1,c2⟩:=(HR.out.1.below HB.out).2 j x hx;have BA:Hid (∀ p,Below w3.heap.size w3 (w3.alloc p)):=Ξ fun p=>(Δ _ _).alloc (Θ _) _;have BB:Hid (∀ p q,Below w3.heap.size w3 ((w3.alloc p).alloc q)):=Ξ fun p q=>((Δ _ _).alloc (Θ _) _).alloc (by simp) _;have CC:Hid (∀ y,Below w3.heap.size w3 y→Calls prog 177 #[.agg #[.int .u64 x.key,x.vec.v,x.tag.v],.agg #[.int .u64 x.key,x.vec.v,x.tag.v]] y fun e w'=>e=.returned (.bool true)∧Below w3.heap.size w3 w'):=Ξ fun y hy=>(rc3_same (h1.below hy)).mono fun e w' q=>⟨q.1,hy.trans (q.2.mono hy.size)⟩;have k0:∀ p,(w3.alloc p).cell? ⟨b,o+j * 3,none⟩=some (.int .u64 x.key):=fun p=>by rw [(BA.out p).cell (p:=⟨b,o+j * 3,none⟩) hb];exact c0
   have k1:∀ p,(w3.alloc p).cell? ⟨b,o+j * 3+1,none⟩=some x.vec.v:=fun p=>by rw [(BA.out p).cell (p:=⟨b,o+j * 3+1,none⟩) hb];exact c1
   have k2:∀ p,(w3.alloc p).cell? ⟨b,o+j * 3+2,none⟩=some x.tag.v:=fun p=>by rw [(BA.out p).cell (p:=⟨b,o+j * 3+2,none⟩) hb];exact c2
   obtain ⟨xk,xv,xt⟩:=x;unfold Sl.v at c1 c2 CC k1 k2;simp only at c0 c1 c2 CC k0 k1 k2;clear h1 hb hlt hx;go_wp2_with fail;refine (CC.out _ (BB.out _ _)).mono ?_;rintro _ w4 ⟨rfl,hb4⟩;have B4:=Ξ (HB.out.trans (hb4.mono HB.out.size));clear hb4 CC k0 k1 k2;go_wp2_with fail;go_roundw;case rel=>exact ⟨j+1,by go_num,Ξ (by have:=JL.out;omega),B4⟩
   case measure=>have:=JL.out;simp [intOf];omega
  ·have d1:decide ((j:Int)<(n:Int))=false:=Λ (by omega);have d1':decide (j<n)=false:=Λ hlt;clear hlt;go_wp2_with fail;go_ret;exact ⟨rfl,HB.out⟩
theorem below_drewNQ{B:Nat}{w w':World}(h:Below B w w')(n:Nat):Below B w (w'.drewN n):=⟨h.os,h.tape,h.output,h.size,h.block⟩
abbrev tHit:TypeId:=118
theorem neq_hit(a b:Int)(w:World):(binOp .neq tHit (.agg #[.int .u64 a,.int .i64 b]) (.agg #[.int .u64 a,.int .i64 b])).run prog w=.ok (.bool false) w:=by
 have u3:=underlying34;have a3:=Tryz.isAgg34;have z3:=Tryz.sizeOf34;have u4:=underlying2;have a4:=Tryz.isAgg2;have z4:=Tryz.sizeOf2;have hS:prog.underlying tHit=some (.struct (prog.fieldsOf tHit)):=by kernel_rfl
 have hp:prog.stoodInHeld tHit=false:=by kernel_rfl
 rw [run_neq_struct,show (10000:Nat)=9999+1 from rfl,run_equalIn_agg w 9999 tHit _ _ hS hp];simp only [Program.fieldsOf,underlying118]
 go_simp
theorem eqh_same{w:World}{a:Option Addr}{n c:Nat}{hs:List (Int×Int)}(h:HtR w a hs)(hn:hs.length=n) :
  Calls prog 179 #[.slice a n c,.slice a n c] w fun e w'=>e=.returned (.bool true)∧Below w.heap.size w w':=by
 have HR:=Ξ (Ψ h hn);have HL:Hid (n≤100000):=Ξ (by rw [←hn];exact h.1);have nn:((n:Int) != (n:Int))=false:=by simp
 clear h hn;go_enter func179,ntmps179;go_wp2_with fail;go_loopw [13] (fun u wr=>∃ j:Nat,u=.int .i64 (j:Int)∧Hid (j≤n)∧Hid (Below w.heap.size w wr)) (fun u _=>n-(intOf u).toNat)
 case atStart=>exact ⟨0,rfl,Ξ (Nat.zero_le _),Ξ (Δ _ _)⟩
 case round=>
  obtain ⟨j,rfl,HJ,HB⟩:=hrel;rename World=>w3;have ej:IntKind.i64.wrap ((j:Int)+1)=((j+1:Nat):Int):=IntWalk.i64_in _ (by have:=HJ.out;have:=HL.out;omega);by_cases hlt:j<n
  ·have d1:decide ((j:Int)<(n:Int))=true:=Γ (by omega);have d1':decide (j<n)=true:=Γ hlt;have j3:(j:Int)<(n:Int):=(by omega);have JL:=Ξ hlt;obtain ⟨x,hx⟩:∃ x,hs[j]? = some x:=⟨_,List.getElem?_eq_getElem (by rw [HR.out.2];exact hlt)⟩;obtain ⟨b,o,rfl,hb,c0,c1⟩:=(HR.out.1.below HB.out).2 j x hx;obtain ⟨xk,xd⟩:=x;simp only at c0 c1;have gm:prog.eqGuardType prog.depth tHit=false:=by kernel_rfl
   have ne:=neq_hit xk xd;clear hb hlt hx;go_wp2_with fail;go_quiet (fail)
   have BN:=Ξ (below_drewNQ HB.out nq);go_wp2_with fail;go_roundw;case rel=>exact ⟨j+1,by go_num,Ξ (by have:=JL.out;omega),BN⟩
   case measure=>have:=JL.out;simp [intOf];omega
  ·have d1:decide ((j:Int)<(n:Int))=false:=Λ (by omega);have d1':decide (j<n)=false:=Λ hlt;clear hlt;go_wp2_with fail;go_ret;exact ⟨rfl,HB.out⟩
end Go.Proofs.YtcgmgdjeamidlaaGreat
