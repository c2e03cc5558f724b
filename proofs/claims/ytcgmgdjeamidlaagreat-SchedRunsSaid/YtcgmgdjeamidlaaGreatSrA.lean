/- Printed small by mini.py. -/
import Derived.Test.YtcgmgdjeamidlaaGreatMr42
namespace Go.Proofs.YtcgmgdjeamidlaaGreat
set_option maxRecDepth 100000
set_option maxHeartbeats 16000000
open Go.RowKit Go.ChangeShapes Go.WideShapes Go.ChangeAt Go.Proofs.Tryz
set_option linter.unusedVariables false
set_option linter.unusedSimpArgs false
abbrev LnS:=List (List Int×Int)
def EvX(n:Nat)(x:ShX)(ys:LnS)(k:Int)(u:List Int)(x':ShX)(ys':LnS)(o:List Int):Prop:=
 ((k<0∨(n:Int)≤k)∧x'=x∧ys'=ys∧o=[])∨∃ (m:Nat) (q:List Int×Int),k=m∧m<n∧ys[m]? = some q∧((q.2≠0∧x'=x∧ys'=ys∧o=[])∨(q.2=0∧∃ q' er,FedX m x q.1 u x' q' o er∧ys'=ys.set m q'))
theorem FedX.same{m:Nat}{x y x' y':ShX}{q u o o':List Int}{q' r':List Int×Int}{er er':Int}(h:SimX x y)(h1:FedX m x q u x' q' o er)(h2:FedX m y q u y' r' o' er'):SimX x' y'∧q'=r'∧o=o':=by
 rcases h1 with ⟨a1,a2,a3⟩|⟨x1,o1,a1,a2,a3,a4,a5⟩<;>rcases h2 with ⟨b1,b2,b3⟩|⟨y1,o2,b1,b2,b3,b4,b5⟩
 ·obtain ⟨r1,r2,r3,_⟩:=a1.same h b1;exact ⟨r1,Prod.ext r2 (by rw [a2,b2]),r3⟩
 ·have:=(a1.same h b1).2.2.2;omega
 ·have:=(a1.same h b1).2.2.2;omega
 ·obtain ⟨r1,_,r3,_⟩:=a1.same h b1;exact ⟨DrX.same r1 a2 b2,by rw [a3,b3],by rw [a4,b4,r3]⟩
theorem EvX.same{n:Nat}{x y x' y':ShX}{ys ys' zs':LnS}{k:Int}{u o o':List Int}(h:SimX x y)(h1:EvX n x ys k u x' ys' o)(h2:EvX n y ys k u y' zs' o'):SimX x' y'∧ys'=zs'∧o=o':=by
 rcases h1 with ⟨a,rfl,rfl,rfl⟩|⟨m,q,rfl,hm,hq,a⟩
 ·rcases h2 with ⟨b,rfl,rfl,rfl⟩|⟨m,q,rfl,hm,hq,b⟩
  ·exact ⟨h,rfl,rfl⟩
  ·omega
 ·rcases h2 with ⟨b,rfl,rfl,rfl⟩|⟨m',q',hk,hm',hq',b⟩
  ·omega
  ·obtain rfl:m=m':=by omega
   rw [hq] at hq';cases hq';rcases a with ⟨a0,rfl,rfl,rfl⟩|⟨a0,q1,er,a1,rfl⟩<;>rcases b with ⟨b0,rfl,rfl,rfl⟩|⟨b0,q2,er2,b1,rfl⟩
   ·exact ⟨h,rfl,rfl⟩
   ·exact (a0 b0).elim
   ·exact (b0 a0).elim
   ·obtain ⟨r1,rfl,r3⟩:=FedX.same h a1 b1;exact ⟨r1,rfl,r3⟩
def pend(ys:LnS):Nat:=(ys.map fun q=>q.1.length).sum
theorem pend_set:∀ {ys:LnS} {m:Nat} {q q':List Int×Int},ys[m]? = some q→pend (ys.set m q')+q.1.length=pend ys+q'.1.length
 | [],m,q,q',h=>by simp at h
 | y :: ys,0,q,q',h=>by simp at h;subst h;simp [pend];omega
 | y :: ys,m+1,q,q',h=>by have ih:=pend_set (ys:=ys) (m:=m) (q:=q) (q':=q') (by simpa using h);simp [pend] at ih ⊢;omega
theorem pend_le{ys:LnS}{m:Nat}{q:List Int×Int}(h:ys[m]? = some q):q.1.length≤pend ys:=by have:=pend_set (q':=([],0)) h;simp at this;omega
theorem EvX.count{n:Nat}{x x':ShX}{ys ys':LnS}{k:Int}{u o:List Int}(h:EvX n x ys k u x' ys' o):x'.1+pend ys'≤x.1+pend ys+u.length+1:=by
 rcases h with ⟨a,rfl,rfl,rfl⟩|⟨m,q,rfl,hm,hq,⟨_,rfl,rfl,rfl⟩|⟨_,q',er,hf,rfl⟩⟩
 ·omega
 ·omega
 ·have hp:=pend_set (q':=q') hq;rcases hf with ⟨a1,a2,a3⟩|⟨x1,o1,a1,⟨_,_,_,a2,_⟩,rfl,a4,a5⟩
  ·have:=a1.count.1;rw [List.length_append] at this;omega
  ·have:=a1.count.1;rw [List.length_append] at this;simp at hp this;omega
inductive EvsX (n:Nat):ShX→LnS→List (Int×List Int)→ShX→LnS→List (List Int)→Prop
 | nil (x ys):EvsX n x ys [] x ys []
 | cons (x ys k u x1 ys1 o es x2 ys2 os):EvX n x ys k u x1 ys1 o→EvsX n x1 ys1 es x2 ys2 os→EvsX n x ys ((k,u) :: es) x2 ys2 (o :: os)
theorem EvsX.snoc{n:Nat}{x x1 x2:ShX}{ys ys1 ys2:LnS}{es:List (Int×List Int)}{os:List (List Int)}{k:Int}{u o:List Int}(h:EvsX n x ys es x1 ys1 os)(h2:EvX n x1 ys1 k u x2 ys2 o):EvsX n x ys (es++[(k,u)]) x2 ys2 (os++[o]):=by
 induction h with
 | nil x ys=>exact .cons _ _ _ _ _ _ _ _ _ _ _ h2 (.nil _ _)
 | cons x ys k u x1 ys1 o es x2 ys2 os h _ ih=>exact .cons _ _ _ _ _ _ _ _ _ _ _ h (ih h2)
theorem EvsX.len{n:Nat}{x x1:ShX}{ys ys1:LnS}{es:List (Int×List Int)}{os:List (List Int)}(h:EvsX n x ys es x1 ys1 os):os.length=es.length:=by
 induction h with
 | nil=>rfl
 | cons _ _ _ _ _ _ _ _ _ _ _ _ _ ih=>simp [ih]
theorem EvsX.head{n:Nat}{x x1:ShX}{ys ys1:LnS}{e:Int×List Int}{es:List (Int×List Int)}{os:List (List Int)}(h:EvsX n x ys (e :: es) x1 ys1 os):∃ x2 ys2 o os',EvX n x ys e.1 e.2 x2 ys2 o∧EvsX n x2 ys2 es x1 ys1 os'∧os=o :: os':=by
 cases h with
 | cons _ _ _ _ _ _ _ _ _ _ _ h1 h2=>exact ⟨_,_,_,_,h1,h2,rfl⟩
end Go.Proofs.YtcgmgdjeamidlaaGreat
