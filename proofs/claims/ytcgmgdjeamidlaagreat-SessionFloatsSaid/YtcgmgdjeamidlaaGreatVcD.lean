/- Texts of one proof, joined. -/
import Derived.Test.YtcgmgdjeamidlaaGreatVcC
import Derived.ProofKit
import Derived.OpenShut
import Derived.Laws.AppendOwnNone
namespace Go.Proofs.YtcgmgdjeamidlaaGreat.vc
set_option maxRecDepth 100000
set_option maxHeartbeats 16000000
open Go.RowKit Go.ChangeShapes Go.WideShapes Go.ChangeAt
def SrcOf(w:World)(v:Value)(m size:Nat)(news:List Value):Prop:=
 (v=.slice none 0 0∧m=0∧news=[])∨∃ ad c,v=.slice (some ad) m c∧news.length=m * size∧∀ j u,news[j]? = some u→w.cell? (ad.add j)=some u
theorem wpList_append_src{P:Program}{w:World}{ops:Array Oper}{rest:List Oper}{o:Oper}{a:Act}{Q:Exit→Act→World→Prop}(hgd:o.guard=none)(s x:Operand)(t:TypeId)
  (ho:o.op=.call { callee:=.builtin .append,args:=#[s,x],argTypes:=#[t,t] })
  (base:Nat) (e:TypeId) (i:TypeInfo) (z:Value) (size bytes:Nat) (ht:P.underlying t=some (.slice e)) (hi:P.info? e=some i) (hz:i.zero=some z)
  (hsize:i.size=size) (hby:i.bytes=bytes) (hzs:z.cells.size=size) (hsz:0<size)
  (v:Value) (n:Nat) (xs:List Value) (hs:a.eval s=v) (hown:w.ownsRow base e size v n xs)
  (src:Value) (m:Nat) (news:List Value) (hx:a.eval x=src) (hsrc:SrcOf w src m size news) (h1:∀ u∈news,u.oneCell'=true)
  (h63:n+m≤maxLen) (hbytes:(n+m) * bytes≤140737488355328) (hbase:base≤w.heap.size)
  (h:∀ v' w',w'.ownsRow base e size v' (n+m) (xs++news)→w.grownBy w' v.ownBlock→wpList P ops Q rest (a.put o.dst v') w'):wpList P ops Q (o :: rest) a w:=by
 rcases hsrc with ⟨rfl,rfl,rfl⟩|⟨ad,c,rfl,hl,hn⟩
 ·exact wpList_append_own_none hgd s x t ho base e i size ht hi v n xs hs hown hx (h v w (by simpa using hown) ⟨rfl,rfl,rfl,Nat.le_refl _,fun _ _ _=>rfl⟩)
 ·exact wpList_append_own w hgd s x t ho base e i z size bytes ht hi hz hsize hby hzs hsz v n xs hs hown ad m c news hx hl hn h1 h63 hbytes hbase fun v' w' h2 h3 _=>h v' w' h2 h3
def IsRow(k:IntKind)(w:World)(a:Option Addr)(len cap:Nat)(zs:List Int):Prop:=
 (a=none∧len=0∧cap=0∧zs=[]) ∨
 ∃ x,a=some x∧len≤cap∧cap≤maxLen∧zs.length=cap∧(∀ i,i<zs.length→w.cell? (x.add i)=some (.int k (zs.getD i 0)))∧∀ n∈zs,(Lit.int k n).wf=true
theorem IsRow.length{k:IntKind}{w:World}{a:Option Addr}{len cap:Nat}{zs:List Int}(h:IsRow k w a len cap zs):(zs.take len).length=len:=by
 rcases h with ⟨rfl,rfl,rfl,rfl⟩|⟨x,rfl,h1,_,h2,_⟩
 ·rfl
 ·simp;omega
theorem IsRow.ints{k:IntKind}{w:World}{a:Option Addr}{len cap:Nat}{zs:List Int}(h:IsRow k w a len cap zs):Ints k w (.slice a len cap) (zs.take len):=by
 have hl:=h.length;rcases h with ⟨rfl,rfl,rfl,rfl⟩|⟨x,rfl,h1,_,h2,hc,_⟩
 ·exact .inl ⟨rfl,_,_,rfl⟩
 ·by_cases h0:len=0
  ·subst h0;exact .inl ⟨by simp,_,_,rfl⟩
  ·obtain ⟨b,off,rfl,hc'⟩:=ints_at hc (by omega);refine .inr ⟨b,off,cap,by rw [hl],fun i hi=>?_⟩;rw [hl] at hi;rw [hc' i (by omega),List.getElem?_take,if_pos hi,List.getD_eq_getElem?_getD]
theorem IsRow.wf{k:IntKind}{w:World}{a:Option Addr}{len cap:Nat}{zs:List Int}(h:IsRow k w a len cap zs):∀ n∈zs.take len,(Lit.int k n).wf=true:=by
 rcases h with ⟨rfl,rfl,rfl,rfl⟩|⟨x,rfl,h1,_,h2,hc,hw⟩
 ·simp
 ·exact fun n hn=>hw n (List.mem_of_mem_take hn)
theorem SrcOf.below{w w':World}{v:Value}{m size:Nat}{news:List Value}(h:SrcOf w v m size news)(hb:Below w.heap.size w w'):SrcOf w' v m size news:=by
 rcases h with h|⟨ad,c,rfl,hl,hc⟩
 ·exact .inl h
 ·refine .inr ⟨ad,c,rfl,hl,fun j u hj=>?_⟩;have:=hc j u hj;rw [hb.cell (World.block_lt_of_cell? w _ this),this]
end Go.Proofs.YtcgmgdjeamidlaaGreat.vc
