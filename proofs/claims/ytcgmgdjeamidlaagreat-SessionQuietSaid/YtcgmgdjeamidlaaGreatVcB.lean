/- Texts of one proof, joined. -/
import Derived.Test.YtcgmgdjeamidlaaGreatRows
import Derived.WalkKit
import Derived.WalkSpells
import Derived.WalkLawsBesides
import Derived.Lib.Hide
import Derived.Deep.QuietTactic
import Derived.BigQuiet
namespace Go.Proofs.YtcgmgdjeamidlaaGreat.vc
set_option maxRecDepth 100000
set_option maxHeartbeats 16000000
open Go.RowKit
theorem ret_int{k:IntKind}{a b:Int}(h:a=b):Ending.returned (.int k a)=.returned (.int k b):=by rw [h]
def Ints(k:IntKind)(w:World)(v:Value)(xs:List Int):Prop:=
 (xs=[]∧∃ a c,v=.slice a 0 c) ∨
 ∃ b off cap,v=.slice (some ⟨b,off,none⟩) xs.length cap∧∀ i,i<xs.length→w.cell? ⟨b,off+i,none⟩=some (.int k (xs[i]?.getD 0))
def ab(d:Int):Int:=if d < -d then -d else d
def distTo(xs ys:List Int):Nat→Int
 | 0=>0
 | k+1=>distTo xs ys k+ab (xs[k]?.getD 0-ys[k]?.getD 0)
def In32(xs:List Int):Prop:=∀ i:Nat,-2147483648≤xs[i]?.getD 0∧xs[i]?.getD 0≤2147483647
theorem distTo_bd(xs ys:List Int)(hx:In32 xs)(hy:In32 ys)(k:Nat):0≤distTo xs ys k∧distTo xs ys k≤4294967296 * k:=by
 induction k with
 | zero=>simp [distTo]
 | succ k ih=>
  have h1:=hx k;have h2:=hy k;simp only [distTo,ab];split<;>omega
def distF(xs ys:List Int):Int:=if xs.length=ys.length∧1≤xs.length∧xs.length≤4096 then distTo xs ys xs.length else 0
def distE(xs ys:List Int):Int:=if xs.length=ys.length∧1≤xs.length∧xs.length≤4096 then 0 else 9
theorem distTo_snoc(xs ys:List Int)(k:Nat):distTo xs ys (k+1)=distTo xs ys k+ab (xs[k]?.getD 0-ys[k]?.getD 0):=rfl
theorem ret_bool{a b:Bool}(h:a=b):Ending.returned (.bool a)=.returned (.bool b):=by rw [h]
theorem dist_good(b1 o1 c1 b2 o2 c2 n:Nat)(xs ys:List Int)(w:World)(hn:xs.length=n)(hn2:ys.length=n)(h1:1≤n)(h2:n≤4096)
  (hx:In32 xs) (hy:In32 ys)
  (cx:∀ i,i<xs.length→w.cell? ⟨b1,o1+i,none⟩=some (.int .i32 (xs[i]?.getD 0)))
  (cy:∀ i,i<ys.length→w.cell? ⟨b2,o2+i,none⟩=some (.int .i32 (ys[i]?.getD 0))) :
  Calls Tryz.prog 243 #[.slice (some ⟨b1,o1,none⟩) n c1,.slice (some ⟨b2,o2,none⟩) n c2] w fun e w'=>e=.returned (.tuple #[.int .i64 (distTo xs ys n),.int .i64 0])∧w=w':=by
 have H1:=Lib.hid cx;have H2:=Lib.hid cy;have H3:=Lib.hid hn;have H4:=Lib.hid hn2;clear cx cy hn hn2;have B:=distTo_bd xs ys hx hy;have HB:=Lib.hid B;have HX:=Lib.hid hx;have HY:=Lib.hid hy;clear B hx hy;have q1:((n:Int) == 0)=false:=by simp;omega
 have q2:decide ((4096:Int)<(n:Int))=false:=by simp;omega
 go_enter Tryz.func243,Tryz.ntmps243
 go_wp2
 go_loop [6,27] (fun s i=>∃ k:Nat,k≤n∧i=.int .i64 k∧s=.int .i64 (distTo xs ys k)) (fun _ i=>n-(intOf i).toNat)
 case atStart=>exact ⟨0,Nat.zero_le _,rfl,rfl⟩
 case round=>
  obtain ⟨k,hk,rfl,rfl⟩:=hrel;by_cases hlt:k<n
  ·have cx:=H1.out k (by have:=H3.out;omega);have cy:=H2.out k (by have:=H4.out;omega);have bx:=HX.out k;have by':=HY.out k
   have e1:=distTo_bd xs ys HX.out HY.out k
   go_wp2
   all_goals
    go_round
    case rel=>exact ⟨k+1,by omega,by go_num,by rw [distTo_snoc,ab];first|done|(rw [if_pos (by omega)])|(rw [if_neg (by omega)])⟩
    case measure=>simp [intOf];omega
  ·obtain rfl:k=n:=by omega
   go_wp2
   go_ret2;exact ⟨rfl,rfl⟩
theorem dist_bad(a1 a2:Option Addr)(n1 c1 n2 c2:Nat)(w:World)(m1:n1≤9223372036854775807)(m2:n2≤9223372036854775807)(h:n1≠n2∨n1=0∨4096<n1) :
  Calls Tryz.prog 243 #[.slice a1 n1 c1,.slice a2 n2 c2] w fun e w'=>e=.returned (.tuple #[.int .i64 0,.int .i64 9])∧w=w':=by
 by_cases h1:n1=n2
 ·subst h1;by_cases h2:n1=0
  ·subst h2;clear h;go_enter Tryz.func243,Tryz.ntmps243
   go_wp2
   go_ret2;exact ⟨rfl,rfl⟩
  ·have q1:((n1:Int) == 0)=false:=by simp;omega
   have q2:decide ((4096:Int)<(n1:Int))=true:=by simp;omega
   clear h h2;go_enter Tryz.func243,Tryz.ntmps243
   go_wp2
   go_ret2;exact ⟨rfl,rfl⟩
 ·have q1:((n1:Int) != (n2:Int))=true:=by simp;omega
  clear h;go_enter Tryz.func243,Tryz.ntmps243
  go_wp2
  go_ret2;exact ⟨rfl,rfl⟩
theorem Ints.shape{k:IntKind}{w:World}{v:Value}{xs:List Int}(h:Ints k w v xs)(hp:0<xs.length) :
  ∃ b off cap,v=.slice (some ⟨b,off,none⟩) xs.length cap∧∀ i,i<xs.length→w.cell? ⟨b,off+i,none⟩=some (.int k (xs[i]?.getD 0)):=by
 rcases h with ⟨rfl,_⟩|h
 ·simp at hp
 ·exact h
theorem Ints.len{k:IntKind}{w:World}{v:Value}{xs:List Int}(h:Ints k w v xs):∃ a c,v=.slice a xs.length c:=by
 rcases h with ⟨rfl,a,c,rfl⟩|⟨b,off,cap,rfl,_⟩
 ·exact ⟨a,c,rfl⟩
 ·exact ⟨_,cap,rfl⟩
theorem dist_any(v1 v2:Value)(xs ys:List Int)(w:World)(h1:Ints .i32 w v1 xs)(h2:Ints .i32 w v2 ys)(hx:In32 xs)(hy:In32 ys)
  (m1:xs.length≤9223372036854775807) (m2:ys.length≤9223372036854775807) :
  Calls Tryz.prog 243 #[v1,v2] w fun e w'=>e=.returned (.tuple #[.int .i64 (distF xs ys),.int .i64 (distE xs ys)])∧w=w':=by
 unfold distF distE;by_cases h:xs.length=ys.length∧1≤xs.length∧xs.length≤4096
 ·rw [if_pos h,if_pos h];obtain ⟨b1,o1,c1,rfl,cx⟩:=h1.shape (by omega);obtain ⟨b2,o2,c2,rfl,cy⟩:=h2.shape (by omega);rw [←h.1];exact dist_good b1 o1 c1 b2 o2 c2 xs.length xs ys w rfl h.1.symm h.2.1 h.2.2 hx hy cx cy
 ·rw [if_neg h,if_neg h];obtain ⟨a1,c1,rfl⟩:=h1.len;obtain ⟨a2,c2,rfl⟩:=h2.len;exact dist_bad a1 a2 _ c1 _ c2 w m1 m2 (by omega)
end Go.Proofs.YtcgmgdjeamidlaaGreat.vc
