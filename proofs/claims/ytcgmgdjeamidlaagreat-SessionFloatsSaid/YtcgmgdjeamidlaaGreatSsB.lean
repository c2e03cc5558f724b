/- Texts of one proof, joined. -/
import Derived.Test.YtcgmgdjeamidlaaGreatMg03
import Derived.Shelf.Abstract
namespace Go.Proofs.YtcgmgdjeamidlaaGreat
set_option maxRecDepth 100000
set_option maxHeartbeats 16000000
open Go.RowKit Go.ChangeShapes Go.WideShapes Go.ChangeAt Go.Proofs.Tryz
set_option linter.unusedVariables false
set_option linter.unusedSimpArgs false
def Gives(zs:List Int)(w:World)(e:Ending)(w':World):Prop:=∃ v,e=.returned v∧w'.ownsRow w.heap.size 5 1 v zs.length (zs.map (Value.int .u8))∧Below w.heap.size w w'
def GivesAt(B:Nat)(zs:List Int)(w:World)(e:Ending)(w':World):Prop:=∃ v,e=.returned v∧w'.ownsRow B 5 1 v zs.length (zs.map (Value.int .u8))∧Below B w w'
def Writes(w:World)(fv:Value)(ys:List Int)(K:List Nat):Prop:=∃ f cap,fv=.func (.func f) #[] cap∧(∀ args y,(callFunc f args).run prog y=.ok (.enter f args) y)∧(∀ b∈K,b<w.heap.size) ∧
 ∀ B y,(∀ b∈K,y.heap[b]? = w.heap[b]?)→(∀ b∈K,b<B)→B≤y.heap.size→∀ v xs,y.ownsRow B 5 1 v xs.length (xs.map (Value.int .u8))→xs.length+ys.length≤1000000 →
  Calls prog f (#[v]++cap) y (GivesAt B (xs++ys) y)
theorem Writes.only{w w':World}{fv:Value}{ys:List Int}{K G:List Nat}(h:Writes w fv ys K)(k:Only G w w')(hG:∀ b∈K,b∉G):Writes w' fv ys K:=by obtain ⟨f,cap,e,he,hlt,hc⟩:=h;have hk:∀ b∈K,w'.heap[b]? = w.heap[b]?:=fun b hb=>k.block b (hlt b hb) (hG b hb);exact ⟨f,cap,e,he,fun b hb=>Nat.lt_of_lt_of_le (hlt b hb) k.size,fun B y hy hB hB2 v xs ho hl=>hc B y (fun b hb=>(hy b hb).trans (hk b hb)) hB hB2 v xs ho hl⟩
theorem Writes.below{w w':World}{fv:Value}{ys:List Int}{K:List Nat}(h:Writes w fv ys K)(k:Below w.heap.size w w'):Writes w' fv ys K:=h.only ((Ω [] w).below k) (by simp)
theorem Writes.lt{w:World}{fv:Value}{ys:List Int}{K:List Nat}(h:Writes w fv ys K):∀ b∈K,b<w.heap.size:=by obtain ⟨f,cap,e,he,hlt,hc⟩:=h;exact hlt
theorem Writes.shape{w:World}{fv:Value}{ys:List Int}{K:List Nat}(h:Writes w fv ys K):∃ f cap,fv=.func (.func f) #[] cap:=by obtain ⟨f,cap,e,_⟩:=h;exact ⟨f,cap,e⟩
theorem src_one(w:World)(x:Int):SrcOf (w.alloc (.cells #[.int .u8 x] 5)) (.slice (some ⟨w.heap.size,0,none⟩) 1 1) 1 1 [.int .u8 x]:=by
 refine .inr ⟨⟨w.heap.size,0,none⟩,1,rfl,rfl,fun j u hj=>?_⟩;cases j with
 | succ j=>simp at hj
 | zero=>
  rw [add_plain];simp at hj;subst hj;exact (Φ w #[.int .u8 x] 5).cell 0
theorem u81_on(n:Int)(h0:0≤n)(h1:n<256)(g:Nat)(B:Nat)(y:World)(hg:Row y g #[.int .i64 n] 3)(hgB:g<B)(hB:B≤y.heap.size)(v:Value)(xs:List Int)(ho:y.ownsRow B 5 1 v xs.length (xs.map (Value.int .u8)))(hl:xs.length+1≤1000000) :
  Calls prog 118 #[v,.pointer (some ⟨g,0,none⟩)] y (GivesAt B (xs++[n]) y):=by
 obtain ⟨i0',hi0,hz0,hz1,hz2⟩:=info_parts infoU8;have c0:=hg.c 0 (.int .i64 n);have wn:IntKind.u8.wrap n=n:=by rw [show IntKind.u8.wrap n=n % 256 from rfl];omega
 have HO:=Ξ ho;have HL:=Ξ hl;have HB:=Ξ hB;have HGB:=Ξ hgB;clear hg ho hl hB hgB h0 h1;go_enter func118,ntmps118;go_wp2_with (at_builtin;refine wpList_append_src rfl (.tmp 4) (.tmp 7) 30 rfl B 5 i0' (.int .u8 0) 1 1 underlying30 hi0 hz0 hz1 hz2 rfl (by decide) _ xs.length (xs.map (Value.int .u8)) rfl ?s0 _ 1 [.int .u8 n] rfl ?s1 ?s2 ?s3 ?s4 ?s5 ?s6);case s0=>exact HO.out.alloc _
 case s1=>exact src_one y n
 case s2=>simp [Value.oneCell']
 case s3=>have:=HL.out;unfold maxLen;omega
 case s4=>have:=HL.out;omega
 case s5=>have:=HB.out;simp;omega
 case s6=>intro v1 w1 hown1 hg1;have b1:Below B y w1:=((Δ _ _).alloc HB.out _).grown hg1 (by have:=HB.out;simp;omega) (fun k hk=>(HO.out.lt k hk).1);have O1:Hid (GivesAt B (xs++[n]) y (.returned v1) w1):=Ξ ⟨v1,rfl,by simpa using hown1,b1⟩;clear hown1 hg1 b1;go_wp2_with fail;go_ret;exact O1.out
theorem u8_on(n:Int)(h0:0≤n)(h1:n<256)(w:World):Calls prog 67 #[.int .i64 n] w fun e w'=>∃ fv K,e=.returned fv∧Writes w' fv [n] K∧(∀ b∈K,w.heap.size≤b)∧Below w.heap.size w w':=by
 have hmf:=hmf_;have R:=Ξ (Φ w #[.int .i64 n] 3);have H:=Ξ (Ψ h0 h1);clear h0 h1;go_enter func67,ntmps67;go_wp2_with fail;go_ret;refine ⟨_,[w.heap.size],rfl,⟨118,_,rfl,enters_of func118 (by kernel_rfl) rfl,by simp,fun B y hy hB hB2 v xs ho hl=>?_⟩,by simp,(Δ _ _).alloc (Θ _) _⟩;have hr:Row y w.heap.size #[.int .i64 n] 3:=by have h1:=hy w.heap.size (by simp);have h2:=R.out;unfold Row at h2 ⊢;rw [h1];exact h2
 exact u81_on n H.out.1 H.out.2 w.heap.size B y hr (hB _ (by simp)) hB2 v xs ho hl
theorem all_on(g o n c:Nat)(fs:List (Value×List Int))(W:World)(hn:fs.length=n)(hc:∀ j p,fs[j]? = some p→W.cell? ⟨g,o+j,none⟩=some p.1∧∃ K,Writes W p.1 p.2 K)(hs:∀ k,((fs.take k).flatMap (·.2)).length≤1000000)(h100:n≤1000) :
  Calls prog 74 #[.slice (some ⟨g,o,none⟩) n c] W (Gives (fs.flatMap (·.2)) W):=by
 have HC:=Ξ hc;have HS:=Ξ hs;have HN:=Ξ hn;have H100:=Ξ h100;clear hc hs hn h100;go_enter func74,ntmps74;go_wp2_with fail;go_loopw [3,8] (fun v u wr=>∃ j:Nat,u=.int .i64 (j:Int)∧Hid (j≤n)∧Hid (wr.ownsRow W.heap.size 5 1 v ((fs.take j).flatMap (·.2)).length (((fs.take j).flatMap (·.2)).map (Value.int .u8))∧Below W.heap.size W wr)) (fun _ u _=>n-(intOf u).toNat)
 case atStart=>exact ⟨0,rfl,Ξ (Nat.zero_le _),Ξ ⟨World.ownsRow_nil _ _ _ _,Δ _ _⟩⟩
 case round=>
  obtain ⟨j,rfl,HJ,HI⟩:=hrel;rename World=>w3;have ej:IntKind.i64.wrap ((j:Int)+1)=((j+1:Nat):Int):=IntWalk.i64_in _ (by have:=HJ.out;have:=H100.out;omega);by_cases hlt:j<n
  ·have d1:decide ((j:Int)<(n:Int))=true:=Γ (by omega);have d1':decide (j<n)=true:=Γ hlt;have j3:(j:Int)<(n:Int):=(by omega);obtain ⟨p,hp⟩:∃ p,fs[j]? = some p:=⟨_,List.getElem?_eq_getElem (by rw [HN.out];exact hlt)⟩;obtain ⟨hcell,K,hw⟩:=HC.out j p hp;obtain ⟨f,cap,ef,he,hlt2,hcall⟩:=hw;have hcell3:w3.cell? ⟨g,o+j,none⟩=some (.func (.func f) #[] cap):=by rw [HI.out.2.cell (p:=⟨g,o+j,none⟩) (World.block_lt_of_cell? W _ hcell),hcell,ef]
   have ht:fs.take (j+1)=fs.take j++[p]:=by rw [List.take_succ_eq_append_getElem (by rw [HN.out];exact hlt)];rw [List.getElem?_eq_getElem (by rw [HN.out];exact hlt),Option.some.injEq] at hp;rw [hp]
   have hfm:(fs.take (j+1)).flatMap (·.2)=(fs.take j).flatMap (·.2)++p.2:=by rw [ht,List.flatMap_append];simp
   have CL:=Ξ (hcall W.heap.size w3 (fun b hb=>HI.out.2.block b (hlt2 b hb)) hlt2 HI.out.2.size u3 ((fs.take j).flatMap (·.2)) HI.out.1 (by have:=HS.out (j+1);rw [hfm,List.length_append] at this;omega));rw [←hfm] at CL;unfold GivesAt at CL;have JL:=Ξ hlt;clear hlt hp hcell hcall ef ht hfm hlt2;go_wp2_with (go_at_fn f;refine CL.out.mono ?_;rintro _ w4 ⟨v4,rfl,h4,hb4⟩);have N4:Hid (w4.ownsRow W.heap.size 5 1 v4 ((fs.take (j+1)).flatMap (·.2)).length (((fs.take (j+1)).flatMap (·.2)).map (Value.int .u8))∧Below W.heap.size W w4):=Ξ ⟨h4,HI.out.2.trans hb4⟩;clear h4 hb4 CL;go_wp2_with fail;go_roundw;case rel=>exact ⟨j+1,by go_num,Ξ (by have:=JL.out;omega),N4⟩
   case measure=>have:=JL.out;simp [intOf];omega
  ·have d1:decide ((j:Int)<(n:Int))=false:=Λ (by omega);have d1':decide (j<n)=false:=Λ hlt;have E:Hid (Gives (fs.flatMap (·.2)) W (.returned u3) w3):=Ξ (by
    have h1:=HI.out;have h2:j=n:=by have:=HJ.out;omega
    rw [h2,←HN.out,List.take_length] at h1;exact ⟨u3,rfl,h1.1,h1.2⟩)
   clear hlt;go_wp2_with fail;go_ret;exact E.out
end Go.Proofs.YtcgmgdjeamidlaaGreat
