/- Printed small by mini.py. -/
import Derived.Test.YtcgmgdjeamidlaaGreatSrB
namespace Go.Proofs.YtcgmgdjeamidlaaGreat
set_option maxRecDepth 100000
set_option maxHeartbeats 16000000
open Go.RowKit Go.ChangeShapes Go.WideShapes Go.ChangeAt Go.Proofs.Tryz
set_option linter.unusedVariables false
set_option linter.unusedSimpArgs false
set_option maxHeartbeats 4000000
def ResZ(lo B p g n t:Nat)(D:PDB)(F H Z:List Nat)(W:World)(e:Ending)(W':World):Prop:=e=.returned (.int .i64 0)∧∃ Z',SchZ W' lo B p g n (t,D,List.replicate n 0) (List.replicate n ([],0)) Z'∧Only Z W W'∧∀ b∈Z',b∈Z∨b∈F∨b∈H∨W.heap.size≤b
theorem reset_at{W:World}{lo B p g l n:Nat}{cs:Array Value}{sb tb:List Nat}{x:ShX}{ys:List (List Int×Int)}{F:List Nat}{SF:List (List Nat)}(h:SchAt W lo B p g l n cs sb tb x ys F SF){B' p' t:Nat}{D:PDB}{F' H':List Nat}(hd:DbF W B' p' D F' H')(hlo:lo≤B')(hB:B'≤W.heap.size)(good:Good t D)(hnot:∀ b,b∈F'∨b∈H'→b≠g∧b≠l) :
  Calls prog 34 #[.pointer (some ⟨g,0,none⟩),baseV p'] W (ResZ lo B' p' g n t D F' H' (g :: l :: (F++SF.flatten)) W):=by
 refine (reset_on (tb:=24) (pb:=.pointer (some ⟨p',0,none⟩)) h.rg h.rl h.cl h.gnl h.n8.1 h.n8.2).mono ?_;rintro e w' ⟨rfl,ls,cs',hI⟩;refine ⟨rfl,_,sch_ofD hd hlo hB good h.n8.1 h.n8.2 hI hnot ⟨h.fr.2.2.2,h.rg.lt⟩ ⟨h.fr.2.2.1,h.rl.lt⟩,hI.only.mono (by intro i hi;left;simp at hi ⊢;rcases hi with rfl|rfl<;>simp),fun b hb=>?_⟩;simp only [List.mem_cons,List.mem_append] at hb;rcases hb with rfl|rfl|(hb|hb|hb)|hb
 ·exact .inl (by simp)
 ·exact .inl (by simp)
 ·obtain ⟨x,hx,rfl⟩:=List.mem_map.1 hb;exact .inr (.inr (.inr (hI.fresh x.1 (List.mem_flatMap.2 ⟨x,hx,by simp⟩))))
 ·exact .inr (.inl hb)
 ·exact .inr (.inr (.inl hb))
 ·obtain ⟨S,hS,hb⟩:=List.mem_flatten.1 hb;obtain ⟨x,hx,rfl⟩:=List.mem_map.1 hS;simp at hb;exact .inr (.inr (.inr (hb ▸ hI.fresh x.2.1 (List.mem_flatMap.2 ⟨x,hx,by simp⟩))))
section
variable {W:World} {lo B p g n:Nat} {x:ShX} {ys:List (List Int×Int)} {Z:List Nat}
theorem reset_z(h:SchZ W lo B p g n x ys Z){B' p' t:Nat}{D:PDB}{F' H':List Nat}(hd:DbF W B' p' D F' H')(hlo:lo≤B')(hB:B'≤W.heap.size)(good:Good t D)(hnot:∀ b,b∈F'∨b∈H'→b∉Z) :
  Calls prog 34 #[.pointer (some ⟨g,0,none⟩),baseV p'] W (ResZ lo B' p' g n t D F' H' Z W):=by
 obtain ⟨l,cs,sb,tb,F,SF,h,rfl⟩:=h;exact reset_at h hd hlo hB good fun b hb=>⟨fun e=>hnot b hb (by simp [e]),fun e=>hnot b hb (by simp [e])⟩
theorem reset_own(h:SchZ W lo B p g n x ys Z)(hlo:lo≤B) :
  Calls prog 34 #[.pointer (some ⟨g,0,none⟩),baseV p] W (ResZ lo B p g n x.1 x.2.1 Z [] Z W):=by
 obtain ⟨l,cs,sb,tb,F,SF,h,rfl⟩:=h;obtain ⟨F1,H1,h1,h2,h3,h4,h5,h6,h7⟩:=h.inv;refine (reset_at h h1 hlo h2 h3 fun b hb=>⟨fun e=>?_,fun e=>?_⟩).mono ?_
 ·exact h.gl.1.1 (by rw [h7,←e];simp;exact .inr hb)
 ·exact h.gl.1.2 (by rw [h7,←e];simp;exact .inr hb)
 ·rintro e w' ⟨rfl,Z',a,b,c⟩;refine ⟨rfl,Z',a,b,fun b hb=>?_⟩;rcases c b hb with hc|hc|hc|hc
  ·exact .inl hc
  ·exact .inl (by rw [h7];simp [hc])
  ·exact .inl (by rw [h7];simp [hc])
  ·exact .inr (.inr (.inr hc))
theorem sessions_z(h:SchZ W lo B p g n x ys Z):Calls prog 27 #[.pointer (some ⟨g,0,none⟩)] W fun e w'=>e=.returned (.int .i64 (n:Int))∧w'=W:=by obtain ⟨l,cs,sb,tb,F,SF,h,rfl⟩:=h;exact sessions_on h.rg
end
end Go.Proofs.YtcgmgdjeamidlaaGreat
