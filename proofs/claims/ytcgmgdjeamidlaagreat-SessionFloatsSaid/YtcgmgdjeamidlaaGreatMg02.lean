/- Texts of one proof, joined. -/
import Derived.Test.YtcgmgdjeamidlaaGreatMapA
import Derived.Test.YtcgmgdjeamidlaaGreatGen
import Derived.Maps.Range
import Derived.Maps.RangeWalk
import Derived.Maps.OwnOps
import Derived.ArgAppend
import Derived.Deep.RegionLaw
namespace Go.Proofs.YtcgmgdjeamidlaaGreat
set_option maxRecDepth 100000
set_option maxHeartbeats 16000000
open Go.RowKit
open Go.ChangeMaps (setBlock)
open Go.MapKept (Stamped)
set_option linter.unusedVariables false
set_option linter.unusedSimpArgs false
/-! ### what has turned -/
structure Only(F:List Nat)(w w':World):Prop where
 os:w'.os=w.os
 tape:w'.tape=w.tape
 output:w'.output=w.output
 size:w.heap.size≤w'.heap.size
 block:∀ i,i<w.heap.size→i∉F→w'.heap[i]? = w.heap[i]?
theorem Only.refl(F:List Nat)(w:World):Only F w w:=⟨rfl,rfl,rfl,Nat.le_refl _,fun _ _ _=>rfl⟩
theorem Only.trans{F G:List Nat}{a b c:World}(h:Only F a b)(k:Only G b c)(hG:∀ i,i∈G→i∈F∨a.heap.size≤i):Only F a c:=
 ⟨k.os.trans h.os,k.tape.trans h.tape,k.output.trans h.output,Nat.le_trans h.size k.size,fun i hi hn=>by rw [k.block i (Nat.lt_of_lt_of_le hi h.size) (fun hg=>(hG i hg).elim hn (by omega)),h.block i hi hn]⟩
theorem Only.mono{F G:List Nat}{w w':World}(h:Only F w w')(hG:∀ i,i∈F→i∈G∨w.heap.size≤i):Only G w w':=
 ⟨h.os,h.tape,h.output,h.size,fun i hi hn=>h.block i hi fun hf=>(hG i hf).elim hn (by omega)⟩
theorem Only.drew{F:List Nat}{a w:World}(h:Only F a w):Only F a w.drew:=⟨h.os,h.tape,h.output,h.size,h.block⟩
theorem Only.drewN{F:List Nat}{a w:World}(h:Only F a w)(n:Nat):Only F a (w.drewN n):=⟨h.os,h.tape,h.output,h.size,h.block⟩
theorem Only.alloc{F:List Nat}{a w:World}(h:Only F a w)(o:Obj):Only F a (w.alloc o):=
 h.trans (G:=[]) ⟨rfl,rfl,rfl,by simp,fun k hk _=>Below.heap_alloc _ _ _ hk⟩ (by simp)
theorem Only.setCell{F:List Nat}{a w:World}(h:Only F a w){p:Addr}(hp:p.block∈F∨a.heap.size≤p.block)(u:Value):Only F a (w.setCell p u):=
 h.trans (G:=[p.block]) ⟨rfl,rfl,rfl,by simp [World.setCell],fun k hk hn=>Below.heap_setCell _ _ _ _ (by simpa using hn)⟩ (by simpa using hp)
theorem Only.grown{F:List Nat}{a w w':World}{row:Option Nat}(h:Only F a w)(hg:w.grownBy w' row)(hr:∀ k,row=some k→k∈F∨a.heap.size≤k):Only F a w':=
 h.trans (G:=row.toList) ⟨hg.os,hg.tape,hg.output,hg.size,fun k hk hn=>hg.block k hk (by rintro rfl;simp at hn)⟩ (by intro i hi;exact hr i (by simpa using hi))
theorem Only.below{F:List Nat}{a w w':World}(h:Only F a w)(k:Below w.heap.size w w'):Only F a w':=
 h.trans (G:=[]) ⟨k.os,k.tape,k.output,k.size,fun i hi _=>k.block i hi⟩ (by simp)
theorem Only.toBelow{F:List Nat}{a w:World}{B:Nat}(h:Only F a w)(hB:B≤a.heap.size)(hF:∀ i,i∈F→B≤i):Below B a w:=
 ⟨h.os,h.tape,h.output,h.size,fun i hi=>h.block i (by omega) fun hf=>by have:=hF i hf;omega⟩
theorem Only.cell{F:List Nat}{w w':World}(h:Only F w w'){b o:Nat}(hb:b<w.heap.size)(hF:b∉F):w'.cell? ⟨b,o,none⟩=w.cell? ⟨b,o,none⟩:=World.cell?_of_block (w:=w) (h.block b hb hF)
/-! ### a block of cells -/
def Row(w:World)(b:Nat)(cs:Array Value)(T:TypeId):Prop:=w.heap[b]? = some (.cells cs T (0,0))
section
variable {w w':World} {b:Nat} {cs:Array Value} {T:TypeId}
theorem Row.lt(h:Row w b cs T):b<w.heap.size:=(Array.getElem?_eq_some_iff.1 h).1
theorem Row.cell(h:Row w b cs T)(j:Nat):w.cell? ⟨b,j,none⟩=cs[j]?:=cell_of_row w b j cs T (0,0) h
theorem Row.free(h:Row w b cs T)(j:Nat):w.frozen? ⟨b,j,none⟩=false:=frozen_of_row w b j cs T h
theorem Row.of_block(h:Row w b cs T)(hb:w'.heap[b]? = w.heap[b]?):Row w' b cs T:=hb.trans h
theorem Row.only{F:List Nat}(h:Row w b cs T)(k:Only F w w')(hF:b∉F):Row w' b cs T:=h.of_block (k.block b h.lt hF)
theorem Row.set(h:Row w b cs T)(j:Nat)(u:Value):Row (w.setCell ⟨b,j,none⟩ u) b (cs.setIfInBounds j u) T:=heap_setCell_same w b j cs T u h
theorem Row.made(w:World)(cs:Array Value)(T:TypeId):Row (w.alloc (.cells cs T (0,0))) w.heap.size cs T:=by show (w.heap.push _)[w.heap.size]? = _;simp
end
theorem MapAt.only{F:List Nat}{w w':World}{b:Nat}{q:IntKind}{L:List (Int×Value)}(h:MapAt w b q L)(k:Only F w w')(hF:b∉F):MapAt w' b q L:=h.of_block (k.block b h.lt hF)
theorem append_own_at{P:Program}(w:World)(base:Nat)(t ty e:TypeId)(i:TypeInfo)(z:Value)(size bytes:Nat)(ht:P.underlying t=some (.slice e))(hi:P.info? e=some i)(hz:i.zero=some z)
  (hsize:i.size=size) (hby:i.bytes=bytes) (hzs:z.cells.size=size) (hsz:0<size) (v:Value) (n:Nat) (xs:List Value) (hown:w.ownsRow base e size v n xs)
  (a:Addr) (m c:Nat) (news:List Value) (hl:news.length=m * size) (hnews:∀ j u,news[j]? = some u→w.cell? (a.add j)=some u) (h1:∀ u∈news,u.oneCell'=true)
  (h63:n+m≤maxLen) (hbytes:(n+m) * bytes≤140737488355328) (hbase:base≤w.heap.size) :
  ∃ v' w',(Builtin.append_ #[t,t] ty #[v,.slice (some a) m c]).run P w=.ok v' w'∧w'.ownsRow base e size v' (n+m) (xs++news)∧w.grownBy w' v.ownBlock∧(v'.ownBlock=v.ownBlock∨∀ g,v'.ownBlock=some g→w.heap.size≤g):=by
 obtain ⟨v',w',hrun,ho,hg,_⟩:=run_append_own (P:=P) w base t ty e i z size bytes ht hi hz hsize hby hzs hsz v n xs hown a m c news hl hnews h1 h63 hbytes hbase;refine ⟨v',w',hrun,ho,hg,?_⟩;have hown':=hown;rcases hown.2 with ⟨rfl,h0⟩|⟨g,cap,cur,rfl,hb,hgh,hnc,hcm,hcs,htake⟩
 ·subst h0;have hx:xs=[]:=by have:=hown.1;simp at this;exact this
  subst hx;obtain ⟨v2,w2,hrun2,ho2,_,_⟩:=run_append_own (P:=P) w w.heap.size t ty e i z size bytes ht hi hz hsize hby hzs hsz _ 0 [] (World.ownsRow_nil w _ e size) a m c news hl hnews h1 h63 hbytes (Nat.le_refl _);rw [hrun] at hrun2;cases hrun2;exact .inr fun g hg=>(ho2.lt g hg).1
 ·by_cases hroom:n+m≤cap
  ·have hsp:∀ j,j<news.length→(w.cell? ⟨g,0+n * i.size+j,none⟩).isSome=true:=fun j hj=>by
    rw [cell_of_row w g _ cur e (0,0) hgh];have:0+n * i.size+j<cur.size:=by rw [hcs,hsize,Nat.zero_add];have:(n+m) * size≤cap * size:=Nat.mul_le_mul_right _ hroom;rw [Nat.add_mul] at this;omega
    rw [Array.getElem?_eq_getElem this];rfl
   have hrun2:=run_append_room_cells (P:=P) w t ty e i ht hi g 0 n cap a m c news (by rw [hsize];exact hl) hnews h1 hroom hsp (fun j hj=>frozen_of_row w g _ cur e hgh);rw [hrun] at hrun2;cases hrun2;exact .inl rfl
  ·obtain ⟨v2,w2,hrun2,ho2,_⟩:=run_append_arg_grows (P:=P) w t ty e i z size bytes ht hi hz hsize hby hzs hsz ⟨g,0,none⟩ n cap xs hown.1 (fun j u hj=>hown'.cells rfl j u hj) a m c news hl hnews (by omega) h63 hbytes;rw [hrun] at hrun2;cases hrun2;exact .inr fun g hg=>(ho2.lt g hg).1
theorem wpList_append_at{P:Program}{w:World}{ops:Array Oper}{rest:List Oper}{o:Oper}{a:Act}{Q:Exit→Act→World→Prop}(hgd:o.guard=none)(s x:Operand)(t:TypeId)
  (ho:o.op=.call { callee:=.builtin .append,args:=#[s,x],argTypes:=#[t,t] })
  (base:Nat) (e:TypeId) (i:TypeInfo) (z:Value) (size bytes:Nat) (ht:P.underlying t=some (.slice e)) (hi:P.info? e=some i) (hz:i.zero=some z)
  (hsize:i.size=size) (hby:i.bytes=bytes) (hzs:z.cells.size=size) (hsz:0<size)
  (v:Value) (n:Nat) (xs:List Value) (hs:a.eval s=v) (hown:w.ownsRow base e size v n xs)
  (ad:Addr) (m c:Nat) (news:List Value) (hx:a.eval x=.slice (some ad) m c) (hl:news.length=m * size) (hnews:∀ j u,news[j]? = some u→w.cell? (ad.add j)=some u) (h1:∀ u∈news,u.oneCell'=true)
  (h63:n+m≤maxLen) (hbytes:(n+m) * bytes≤140737488355328) (hbase:base≤w.heap.size)
  (h:∀ v' w',w'.ownsRow base e size v' (n+m) (xs++news)→w.grownBy w' v.ownBlock→(v'.ownBlock=v.ownBlock∨∀ g,v'.ownBlock=some g→w.heap.size≤g)→wpList P ops Q rest (a.put o.dst v') w'):wpList P ops Q (o :: rest) a w:=by
 refine wpList_plain hgd fun K' hK'=>?_;obtain ⟨v',w',hrun,r1,r2,r3⟩:=append_own_at (P:=P) w base t o.type e i z size bytes ht hi hz hsize hby hzs hsz v n xs hown ad m c news hl hnews h1 h63 hbytes hbase;unfold Oper.wp;simp [execOp,ho,resolve,invoke,builtin,hs,hx,hrun,Result.andThen];exact hK' _ _ (h v' w' r1 r2 r3)
theorem step_append_eq{P:Program}{ops:Array Oper}{o:Oper}{a:Act}{w:World}{K:Act→World→Prop}{Q:Exit→Act→World→Prop}{E:Prop}
  (hg:o.guard=none) (s x:Operand) (t:TypeId) (hop:o.op=Op.call { callee:=Callee.builtin Builtin.append,args:=#[s,x],argTypes:=#[t,t] }) (v src v':Value) (w':World)
  (hs:a.eval s=v) (hx:a.eval x=src) (hrun:(Builtin.append_ #[t,t] o.type #[v,src]).run P w=.ok v' w') (hK:K (a.put o.dst v') w') :
  if Region.wanted o (yielded ops a.tmps)=true then Oper.wp P o a w K Q else E:=by
 have hw:Region.wanted o (yielded ops a.tmps)=true:=by simp [Region.wanted,hg]
 rw [if_pos hw];unfold Oper.wp;simp [execOp,hop,resolve,invoke,builtin,hs,hx,hrun,Result.andThen];exact hK
/-! ### maps at the operations -/
theorem turned_only{w:World}{b:Nat}{o:Obj}:(∀ i,i≠b→(setBlock w b o).heap[i]? = w.heap[i]?)∧(setBlock w b o).heap.size=w.heap.size:=by
 constructor
 ·intro i hi;simp only [setBlock,Array.getElem?_setIfInBounds];rw [if_neg (fun e=>hi e.symm)]
 ·simp [setBlock]
theorem setBlock_only{w:World}{b:Nat}{o:Obj}:Only [b] w (setBlock w b o):=⟨rfl,rfl,rfl,by rw [turned_only.2];exact Nat.le_refl _,fun i _ hn=>turned_only.1 i (by simpa using hn)⟩
section
variable {P:Program} (w:World) {ops:Array Oper} {rest:List Oper} {o:Oper} {a:Act} {Q:Exit→Act→World→Prop}
theorem wpList_update_at(hg:o.guard=none)(m x v:Operand)(t:TypeId)(hop:o.op=Op.mapUpdate t m x v)(kt et:TypeId)(q:IntKind)(ht:P.underlying t=some (.map kt et))(hk:P.underlying kt=some (.int q))
  (b:Nat) (L:List (Int×Value)) (hm:a.eval m=.map (some b)) (hown:MapAt w b q L) (key:Int) (val:Value) (hx:a.eval x=.int q key) (hv:a.eval v=val)
  (hK:∀ w',MapAt w' b q (up key val L)→Only [b] w w'→w'.heap.size=w.heap.size→wpList P ops Q rest (a.put o.dst undef) w'):wpList P ops Q (o :: rest) a w:=by
 refine wpList_plain hg fun K' hK'=>?_;obtain ⟨es,clock,hb,hs,hL⟩:=hown;have hrun:=run_update (P:=P) hb hL ht hk key val;unfold Oper.wp;simp [execOp,hop,hm,hx,hv,hrun,Result.andThen];exact hK' _ _ (hK _ (MapAt.set hb hs hL key val) setBlock_only turned_only.2)
theorem wpList_look_at(hg:o.guard=none)(m x:Operand)(t:TypeId)(ok:Bool)(hop:o.op=Op.lookup t m x ok)(kt et:TypeId)(q:IntKind)(ht:P.underlying t=some (.map kt et))(hk:P.underlying kt=some (.int q))(z:Value)(hz:∀ w,(zeroValue et).run P w=.ok z w)
  (b:Nat) (L:List (Int×Value)) (hm:a.eval m=.map (some b)) (hown:MapAt w b q L) (key:Int) (hx:a.eval x=.int q key)
  (hK:wpList P ops Q rest (a.put o.dst (if ok then .tuple #[(lk key L).getD z,.bool (lk key L).isSome] else (lk key L).getD z)) w):wpList P ops Q (o :: rest) a w:=by
 refine wpList_plain hg fun K' hK'=>?_;have hrun:=hown.look (P:=P) ht hk (hz w) key ok;unfold Oper.wp;simp [execOp,hop,hm,hx,hrun,Result.andThen];exact hK' _ _ hK
theorem wpList_delete_at(hg:o.guard=none)(m x:Operand)(t kt:TypeId)(hop:o.op=Op.call { callee:=Callee.builtin Builtin.delete,args:=#[m,x],argTypes:=#[t,kt] })(et:TypeId)(q:IntKind)(ht:P.underlying t=some (.map kt et))(hk:P.underlying kt=some (.int q))
  (b:Nat) (L:List (Int×Value)) (hm:a.eval m=.map (some b)) (hown:MapAt w b q L) (key:Int) (hx:a.eval x=.int q key)
  (hK:∀ w',MapAt w' b q (rm key L)→Only [b] w w'→w'.heap.size=w.heap.size→wpList P ops Q rest (a.put o.dst (.tuple #[])) w'):wpList P ops Q (o :: rest) a w:=by
 refine wpList_plain hg fun K' hK'=>?_;obtain ⟨ob,hrun,hm'⟩:=hown.delete (P:=P) ht hk o.type key;unfold Oper.wp;simp [execOp,hop,resolve,invoke,builtin,hm,hx,hrun,Result.andThen];exact hK' _ _ (hK _ hm' setBlock_only turned_only.2)
theorem wpList_len_at(hg:o.guard=none)(m:Operand)(t:TypeId)(hop:o.op=Op.call { callee:=Callee.builtin Builtin.len,args:=#[m],argTypes:=#[t] })(kt et:TypeId)(q:IntKind)(ht:P.underlying t=some (.map kt et))
  (b:Nat) (L:List (Int×Value)) (hm:a.eval m=.map (some b)) (hown:MapAt w b q L) (hK:wpList P ops Q rest (a.put o.dst (.int .i64 (L.length:Int))) w):wpList P ops Q (o :: rest) a w:=by
 refine wpList_plain hg fun K' hK'=>?_;obtain ⟨es,clock,hb,hs,hL⟩:=hown;have hrun:(Builtin.len_ #[t] o.type #[.map (some b)]).run P w=.ok (.int .i64 (L.length:Int)) w:=by rw [←kvs_len hL];simp [Builtin.len_,run_underlying ht,MapKept.run_getObj_map hb,goInt,Result.andThen]
 unfold Oper.wp;simp [execOp,hop,resolve,invoke,builtin,hm,hrun,Result.andThen];exact hK' _ _ hK
theorem MapAt.made(w:World)(q:IntKind):MapAt (w.alloc (.map #[] 0)) w.heap.size q []:=by
 refine ⟨#[],0,?_,?_,rfl⟩
 ·show (w.heap.push _)[w.heap.size]? = _;simp
 ·exact MapKept.stamped_empty 0
end
/-! ### ranges -/
def Rng(w:World)(b r:Nat)(q:IntKind)(L left:List (Int×Value)):Prop:=
 ∃ es clock since seen c0,w.heap[b]? = some (.map es clock)∧Stamped es clock∧KVs q es L∧w.heap[r]? = some (.mapIter (some b) since seen c0)∧(∀ x∈es.toList,x.born<since)∧since≤c0∧since≤clock ∧
  (leftOf es seen).toList.map (fun e=>(e.key,e.val))=left.map (fun p=>(Value.int q p.1,p.2))
theorem Rng.mapAt{w:World}{b r:Nat}{q:IntKind}{L left:List (Int×Value)}(h:Rng w b r q L left):MapAt w b q L:=by obtain ⟨es,clock,since,seen,c0,hb,hs,hL,_⟩:=h;exact ⟨es,clock,hb,hs,hL⟩
theorem Rng.lt{w:World}{b r:Nat}{q:IntKind}{L left:List (Int×Value)}(h:Rng w b r q L left):r<w.heap.size:=by obtain ⟨es,clock,since,seen,c0,_,_,_,hr,_⟩:=h;exact (Array.getElem?_eq_some_iff.1 hr).1
theorem Rng.of_blocks{w w':World}{b r:Nat}{q:IntKind}{L left:List (Int×Value)}(h:Rng w b r q L left)(hb:w'.heap[b]? = w.heap[b]?)(hr:w'.heap[r]? = w.heap[r]?):Rng w' b r q L left:=by obtain ⟨es,clock,since,seen,c0,h1,h2,h3,h4,h5⟩:=h;exact ⟨es,clock,since,seen,c0,hb.trans h1,h2,h3,hr.trans h4,h5⟩
theorem Rng.only{F:List Nat}{w w':World}{b r:Nat}{q:IntKind}{L left:List (Int×Value)}(h:Rng w b r q L left)(k:Only F w w')(hb:b∉F)(hr:r∉F):Rng w' b r q L left:=
 h.of_blocks (k.block b h.mapAt.lt hb) (k.block r h.lt hr)
theorem Rng.sub{w:World}{b r:Nat}{q:IntKind}{L left:List (Int×Value)}(h:Rng w b r q L left):∀ p∈left,p∈L:=by
 obtain ⟨es,clock,since,seen,c0,_,_,hL,_,_,_,_,hl⟩:=h;intro p hp;have h1:(Value.int q p.1,p.2)∈left.map (fun p=>(Value.int q p.1,p.2)):=List.mem_map.2 ⟨p,hp,rfl⟩;rw [←hl] at h1;obtain ⟨e,he,h2⟩:=List.mem_map.1 h1;have he':e∈es.toList:=by simp [leftOf] at he;simpa using he.1
 obtain ⟨p',hp',h3,h4⟩:=kvs_mem hL he';simp only [Prod.mk.injEq] at h2;have e1:p'.1=p.1:=by have:=h3.symm.trans h2.1;simpa using this
 have e2:p'.2=p.2:=h4.symm.trans h2.2;rw [show p=p' from Prod.ext e1.symm e2.symm];exact hp'
theorem key_born{es:Array MapEntry}{clock:Nat}(hs:Stamped es clock){x e:MapEntry}(hx:x∈es.toList)(he:e∈es.toList):x.key=e.key↔x.born=e.born:=by
 have hst:=(MapKept.stamped_iff es clock).1 hs;constructor
 ·intro h;exact congrArg MapEntry.born (entry_eq_of_key hst.2.2 hx he h)
 ·intro h;exact congrArg MapEntry.key (born_inj hst.2.1 hx he h)
theorem filter_pair{α β γ:Type}(f:α→γ)(g:β→γ)(p:α→Bool)(s:β→Bool):∀ (l:List α) (m:List β),l.map f=m.map g→(∀ x∈l,∀ y∈m,f x=g y→p x=s y)→(l.filter p).map f=(m.filter s).map g
 | [],[],_,_=>rfl
 | [],_ :: _,h,_=>by simp at h
 | _ :: _,[],h,_=>by simp at h
 | x :: l,y :: m,h,hp=>by
  simp only [List.map_cons,List.cons.injEq] at h;have ih:=filter_pair f g p s l m h.2 fun a ha c hc=>hp a (List.mem_cons_of_mem _ ha) c (List.mem_cons_of_mem _ hc);have hx:=hp x (List.mem_cons_self ..) y (List.mem_cons_self ..) h.1;simp only [List.filter_cons,←hx];cases p x
  ·simpa using ih
  ·simp only [if_true,List.map_cons,h.1,ih]
theorem rng_step{w w1:World}{b r:Nat}{q:IntKind}{es:Array MapEntry}{clock since c0:Nat}{seen:Array Nat}{L left:List (Int×Value)}(hne:r≠b)
  (hb:w.heap[b]? = some (.map es clock)) (hs:Stamped es clock) (hL:KVs q es L) (hr:w.heap[r]? = some (.mapIter (some b) since seen c0)) (hold:∀ x∈es.toList,x.born<since) (hsc:since≤c0)
  (hl:(leftOf es seen).toList.map (fun e=>(e.key,e.val))=left.map (fun p=>(Value.int q p.1,p.2))) (h1:w1=w∨w1=w.drew) {e:MapEntry} (he:e∈(leftOf es seen).toList) (hck:since≤clock) :
  ∃ k,e.key=.int q k∧(k,e.val)∈left∧Rng (setBlock w1 r (.mapIter (some b) since (seen.push e.born) clock)) b r q L (rm k left):=by
 have he':e∈es.toList:=by simp [leftOf] at he;simpa using he.1
 have h2:(e.key,e.val)∈left.map (fun p=>(Value.int q p.1,p.2)):=by rw [←hl];exact List.mem_map.2 ⟨e,he,rfl⟩
 obtain ⟨p,hp,h3⟩:=List.mem_map.1 h2;simp only [Prod.mk.injEq] at h3;have hb1:w1.heap[b]? = some (.map es clock):=by rcases h1 with rfl|rfl<;>exact hb
 have hr1:w1.heap[r]? = some (.mapIter (some b) since seen c0):=by rcases h1 with rfl|rfl<;>exact hr
 refine ⟨p.1,h3.1.symm,by rw [←h3.2];exact hp,es,clock,since,seen.push e.born,clock,?_,hs,hL,?_,hold,hck,hck,?_⟩
 ·rw [turned_only.1 b (fun h=>hne h.symm)];exact hb1
 ·simp only [setBlock];rw [Array.getElem?_setIfInBounds_self_of_lt (Array.getElem?_eq_some_iff.1 hr1).1]
 ·have e1:(leftOf es (seen.push e.born)).toList=(leftOf es seen).toList.filter fun x=>!decide (x.born=e.born):=by unfold leftOf;simp only [Array.toList_filter,List.filter_filter];refine List.filter_congr fun x _=>?_;simp only [Array.contains_push];cases seen.contains x.born<;>simp [Bool.beq_eq_decide_eq]
  rw [e1,rm];refine filter_pair _ _ _ _ _ _ hl fun x hx y hy hxy=>?_;have hx':x∈es.toList:=by simp [leftOf] at hx;simpa using hx.1
  simp only [Prod.mk.injEq] at hxy;have hkb:=key_born hs hx' he';rw [hxy.1,←h3.1] at hkb;have:y.1=p.1↔x.born=e.born:=by rw [←hkb];simp
  rw [show decide (x.born=e.born)=decide (y.1=p.1) from decide_eq_decide.2 this.symm]
section
variable {P:Program} (w:World) {ops:Array Oper} {rest:List Oper} {o:Oper} {a:Act} {Q:Exit→Act→World→Prop}
theorem wpList_range_at(hg:o.guard=none)(m:Operand)(t:TypeId)(hop:o.op=Op.range t m)(kt et:TypeId)(q:IntKind)(ht:P.underlying t=some (.map kt et))(b:Nat)(L:List (Int×Value))(hm:a.eval m=.map (some b))(hown:MapAt w b q L)
  (hK:∀ w',Rng w' b w.heap.size q L L→Only [] w w'→w'.heap.size=w.heap.size+1→wpList P ops Q rest (a.put o.dst (.pointer (some ⟨w.heap.size,0,none⟩))) w'):wpList P ops Q (o :: rest) a w:=by
 refine wpList_plain hg fun K' hK'=>?_;have hlt:=hown.lt;obtain ⟨es,clock,hb,hs,hL⟩:=hown;have hrun:=run_range_map (P:=P) w t kt et b es clock ht hb;unfold Oper.wp;simp [execOp,hop,hm,hrun,Result.andThen];refine hK' _ _ (hK _ ⟨es,clock,clock,#[],clock,((MapKept.heap_alloc w _).2 b hlt).trans hb,hs,hL,(MapKept.heap_alloc w _).1,hs.1,Nat.le_refl _,Nat.le_refl _,?_⟩ ((Only.refl [] w).alloc _) (by simp));have:(leftOf es #[]).toList=es.toList:=by simp [leftOf]
 rw [this];exact hL
theorem wpList_next_at(hg:o.guard=none)(it:Operand)(hop:o.op=Op.next it false)(b r:Nat)(q:IntKind)(L left:List (Int×Value))(hit:a.eval it=.pointer (some ⟨r,0,none⟩))(h:Rng w b r q L left)
  (hDone:left=[]→wpList P ops Q rest (a.put o.dst (.tuple #[.bool false])) w)
  (hMore:∀ (k:Int) (v:Value) (w':World),(k,v)∈left→Rng w' b r q L (rm k left)→Only [r] w w'→w'.heap.size=w.heap.size→(Instr.entry (.pointer (some ⟨r,0,none⟩))).run P w'=.ok (.tuple #[.int q k,v]) w'→wpList P ops Q rest (a.put o.dst (.tuple #[.bool true,.int q k,v])) w') :
  wpList P ops Q (o :: rest) a w:=by
 refine wpList_plain hg fun K' hK'=>?_;have hne:r≠b:=by obtain ⟨es,clock,since,seen,c0,hb,_,_,hr,_⟩:=h;intro e;rw [e,hb] at hr;cases hr
 obtain ⟨es,clock,since,seen,c0,hb,hs,hL,hr,hold,hsc,hck,hl⟩:=h;unfold Oper.wp;rcases run_next_at (P:=P) w o.type r b since c0 seen es clock hr hb hold hsc with ⟨h0,hrun⟩|⟨e,he,w1,hal,hrun⟩
 ·simp [execOp,hop,hit,hrun,Result.andThen];refine hK' _ _ (hDone ?_);have:(leftOf es seen).toList=[]:=by have:=Array.eq_empty_of_size_eq_zero h0;rw [this]
  rw [this] at hl;simpa using hl.symm
 ··obtain ⟨k,hk,hmem,hR⟩:=rng_step hne hb hs hL hr hold hsc hl hal he hck;have he':e∈es.toList:=by simp [leftOf] at he;simpa using he.1
   have hnd:(es.toList.map (·.born)).Nodup:=hs.2.1;rw [hk] at hrun;simp [execOp,hop,hit,hrun,Result.andThen];have hO:Only [r] w (setBlock w1 r (.mapIter (some b) since (seen.push e.born) clock)):=by
    rcases hal with rfl|rfl
    ·exact setBlock_only
    ·exact ((Only.refl [r] w).drew).trans setBlock_only (by simp)
   have hb1:(setBlock w1 r (.mapIter (some b) since (seen.push e.born) clock)).heap[b]? = some (.map es clock):=by rw [turned_only.1 b (fun h=>hne h.symm)];rcases hal with rfl|rfl<;>exact hb
   have hr1:(setBlock w1 r (.mapIter (some b) since (seen.push e.born) clock)).heap[r]? = some (.mapIter (some b) since (seen.push e.born) clock):=by
    have:r<w1.heap.size:=by rcases hal with rfl|rfl<;>exact (Array.getElem?_eq_some_iff.1 hr).1
    simp only [setBlock];rw [Array.getElem?_setIfInBounds_self_of_lt this]
   have hen:=run_entry_at (P:=P) _ r b since seen es clock e hr1 hb1 he' hnd;rw [hk] at hen;refine hK' _ _ (hMore k e.val _ hmem hR hO ?_ hen);rw [turned_only.2];rcases hal with rfl|rfl<;>rfl
end
theorem Γ{p:Prop}[Decidable p](h:p):decide p=true:=decide_eq_true h
theorem Λ{p:Prop}[Decidable p](h:¬p):decide p=false:=decide_eq_false h
theorem Ξ{p:Prop}(h:p):Hid p:=Lib.hid h
theorem Ω(F:List Nat)(w:World):Only F w w:=Only.refl F w
theorem Δ(B:Nat)(w:World):Below B w w:=Below.refl B w
theorem Ψ{a b:Prop}(h:a)(k:b):a∧b:=⟨h,k⟩
theorem Φ(w:World)(cs:Array Value)(T:TypeId):Row (w.alloc (.cells cs T)) w.heap.size cs T:=Row.made w cs T
theorem Θ(n:Nat):n≤n:=Nat.le_refl n
theorem hmf_:∀ (fn:Fn) (first cap:Array Value) (w:World),(Instr.makeFunc fn first cap).run Tryz.prog w=.ok (.func fn first cap) w:=fun _ _ _ _=>rfl
theorem Row.c{w:World}{b:Nat}{cs:Array Value}{T:TypeId}(h:Row w b cs T)(j:Nat)(v:Value)(e:cs[j]? = some v:=by rfl):w.cell? ⟨b,j,none⟩=some v:=(h.cell j).trans e
theorem Row.cs9{w:World}{b:Nat}{T:TypeId}{v0 v1 v2 v3 v4 v5 v6 v7 v8:Value}(h:Row w b #[v0,v1,v2,v3,v4,v5,v6,v7,v8] T):w.cell? ⟨b,0,none⟩=some v0∧w.cell? ⟨b,1,none⟩=some v1∧w.cell? ⟨b,2,none⟩=some v2∧w.cell? ⟨b,3,none⟩=some v3∧w.cell? ⟨b,4,none⟩=some v4∧w.cell? ⟨b,5,none⟩=some v5∧w.cell? ⟨b,6,none⟩=some v6∧w.cell? ⟨b,7,none⟩=some v7∧w.cell? ⟨b,8,none⟩=some v8:=⟨h.cell 0,h.cell 1,h.cell 2,h.cell 3,h.cell 4,h.cell 5,h.cell 6,h.cell 7,h.cell 8⟩
theorem Row.fs9{w:World}{b:Nat}{cs:Array Value}{T:TypeId}(h:Row w b cs T):w.frozen? ⟨b,0,none⟩=false∧w.frozen? ⟨b,1,none⟩=false∧w.frozen? ⟨b,2,none⟩=false∧w.frozen? ⟨b,3,none⟩=false∧w.frozen? ⟨b,4,none⟩=false∧w.frozen? ⟨b,5,none⟩=false∧w.frozen? ⟨b,6,none⟩=false∧w.frozen? ⟨b,7,none⟩=false∧w.frozen? ⟨b,8,none⟩=false:=⟨h.free 0,h.free 1,h.free 2,h.free 3,h.free 4,h.free 5,h.free 6,h.free 7,h.free 8⟩
theorem Row.cs10{w:World}{b:Nat}{T:TypeId}{v0 v1 v2 v3 v4 v5 v6 v7 v8 v9:Value}(h:Row w b #[v0,v1,v2,v3,v4,v5,v6,v7,v8,v9] T):w.cell? ⟨b,0,none⟩=some v0∧w.cell? ⟨b,1,none⟩=some v1∧w.cell? ⟨b,2,none⟩=some v2∧w.cell? ⟨b,3,none⟩=some v3∧w.cell? ⟨b,4,none⟩=some v4∧w.cell? ⟨b,5,none⟩=some v5∧w.cell? ⟨b,6,none⟩=some v6∧w.cell? ⟨b,7,none⟩=some v7∧w.cell? ⟨b,8,none⟩=some v8∧w.cell? ⟨b,9,none⟩=some v9:=⟨h.cell 0,h.cell 1,h.cell 2,h.cell 3,h.cell 4,h.cell 5,h.cell 6,h.cell 7,h.cell 8,h.cell 9⟩
theorem Row.fs10{w:World}{b:Nat}{cs:Array Value}{T:TypeId}(h:Row w b cs T):w.frozen? ⟨b,0,none⟩=false∧w.frozen? ⟨b,1,none⟩=false∧w.frozen? ⟨b,2,none⟩=false∧w.frozen? ⟨b,3,none⟩=false∧w.frozen? ⟨b,4,none⟩=false∧w.frozen? ⟨b,5,none⟩=false∧w.frozen? ⟨b,6,none⟩=false∧w.frozen? ⟨b,7,none⟩=false∧w.frozen? ⟨b,8,none⟩=false∧w.frozen? ⟨b,9,none⟩=false:=⟨h.free 0,h.free 1,h.free 2,h.free 3,h.free 4,h.free 5,h.free 6,h.free 7,h.free 8,h.free 9⟩
end Go.Proofs.YtcgmgdjeamidlaaGreat
namespace Go.Proofs.YtcgmgdjeamidlaaGreat
set_option maxRecDepth 100000
set_option maxHeartbeats 16000000
open Go.RowKit Go.ChangeShapes Go.WideShapes Go.ChangeAt Go.Proofs.Tryz
set_option linter.unusedVariables false
set_option linter.unusedSimpArgs false
abbrev tDb:TypeId:=108
abbrev tVr:TypeId:=288
abbrev tPx:TypeId:=285
abbrev tIt:TypeId:=37
structure Sl where
 a:Option Addr
 c:Nat
 xs:List Int
def Sl.v(s:Sl):Value:=.slice s.a s.xs.length s.c
def Sl.bs(s:Sl):List Nat:=(s.a.map (·.block)).toList
def Sl.no:Sl:=⟨none,0,[]⟩
structure SlAt(q:IntKind)(w:World)(s:Sl):Prop where
 ints:Ints q w s.v s.xs
 lt:∀ b∈s.bs,b<w.heap.size
 nn:s.a=none→s.xs=[]∧s.c=0
 le:s.xs.length≤1000000
 row:∀ b∈s.bs,∃ cs T,Row w b cs T
structure SlRd(q:IntKind)(w:World)(s:Sl):Prop where
 ints:Ints q w s.v s.xs
 lt:s.xs≠[]→∀ b∈s.bs,b<w.heap.size
 nn:s.a=none→s.xs=[]∧s.c=0
 le:s.xs.length≤1000000
theorem SlAt.rd{q:IntKind}{w:World}{s:Sl}(h:SlAt q w s):SlRd q w s:=⟨h.ints,fun _=>h.lt,h.nn,h.le⟩
instance SlAt.coe (q:IntKind) (w:World) (s:Sl):Coe (SlAt q w s) (SlRd q w s):=⟨SlAt.rd⟩
theorem SlRd.only{q:IntKind}{G:List Nat}{w w':World}{s:Sl}(h:SlRd q w s)(k:Only G w w')(hG:s.xs≠[]→∀ b∈s.bs,b∉G):SlRd q w' s:=by
 refine ⟨?_,fun he b hb=>Nat.lt_of_lt_of_le (h.lt he b hb) k.size,h.nn,h.le⟩;rcases h.ints with h1|⟨b,off,cap,e,hc⟩
 ·exact .inl h1
 ·refine .inr ⟨b,off,cap,e,fun i hi=>?_⟩;have hb:b∈s.bs:=by unfold Sl.v at e;simp only [Value.slice.injEq] at e;simp [Sl.bs,e.1]
  have he:s.xs≠[]:=fun e=>by rw [e] at hi;simp at hi
  rw [k.cell (h.lt he b hb) (hG he b hb)];exact hc i hi
theorem SlAt.no(q:IntKind)(w:World):SlAt q w Sl.no:=⟨.inl ⟨rfl,_,_,rfl⟩,by simp [Sl.bs,Sl.no],fun _=>⟨rfl,rfl⟩,by simp [Sl.no],by simp [Sl.bs,Sl.no]⟩
theorem SlAt.only{q:IntKind}{G:List Nat}{w w':World}{s:Sl}(h:SlAt q w s)(k:Only G w w')(hG:∀ b∈s.bs,b∉G):SlAt q w' s:=by
 refine ⟨?_,fun b hb=>Nat.lt_of_lt_of_le (h.lt b hb) k.size,h.nn,h.le,fun b hb=>by obtain ⟨cs,T,hr⟩:=h.row b hb;exact ⟨cs,T,hr.only k (hG b hb)⟩⟩
 rcases h.ints with h1|⟨b,off,cap,e,hc⟩
 ·exact .inl h1
 ·refine .inr ⟨b,off,cap,e,fun i hi=>?_⟩;have hb:b∈s.bs:=by unfold Sl.v at e;simp only [Value.slice.injEq] at e;simp [Sl.bs,e.1]
  rw [k.cell (h.lt b hb) (hG b hb)];exact hc i hi
theorem SlRd.src{q:IntKind}{w:World}{s:Sl}(h:SlRd q w s):SrcOf w s.v s.xs.length 1 (s.xs.map (Value.int q)):=by
 rcases h.ints with ⟨h1,a,c,e⟩|⟨b,off,cap,e,hc⟩
 ·unfold Sl.v at e ⊢;cases ha:s.a with
  | none=>
   obtain ⟨e1,e2⟩:=h.nn ha;exact .inl ⟨by rw [e1,e2];rfl,by rw [e1];rfl,by rw [e1];rfl⟩
  | some ad=>exact .inr ⟨ad,s.c,rfl,by simp,fun j u hj=>by rw [h1] at hj;simp at hj⟩
 ·refine .inr ⟨⟨b,off,none⟩,cap,e,by simp,fun j u hj=>?_⟩;rw [List.getElem?_map,Option.map_eq_some_iff] at hj;obtain ⟨z,hz,rfl⟩:=hj;have hj':=(List.getElem?_eq_some_iff.1 hz).1;rw [add_plain,hc j hj',hz];rfl
structure Ver where
 at_:Int
 gone:Bool
 key:Int
 vec:Sl
 tag:Sl
def Ver.cells(v:Ver):List Value:=[.int .u64 v.at_,.bool v.gone,.int .u64 v.key,v.vec.v,v.tag.v]
def Ver.val(v:Ver):Value:=.agg #[.int .u64 v.at_,.bool v.gone,.int .u64 v.key,v.vec.v,v.tag.v]
def Ver.bs(v:Ver):List Nat:=v.vec.bs++v.tag.bs
structure VerAt(w:World)(v:Ver):Prop where
 vec:SlAt .i32 w v.vec
 tag:SlAt .u8 w v.tag
theorem VerAt.only{G:List Nat}{w w':World}{v:Ver}(h:VerAt w v)(k:Only G w w')(hG:∀ b∈v.bs,b∉G):VerAt w' v:=
 ⟨h.vec.only k fun b hb=>hG b (List.mem_append_left _ hb),h.tag.only k fun b hb=>hG b (List.mem_append_right _ hb)⟩
theorem VerAt.lt{w:World}{v:Ver}(h:VerAt w v):∀ b∈v.bs,b<w.heap.size:=fun b hb=>by
 rcases List.mem_append.1 hb with hb|hb
 ·exact h.vec.lt b hb
 ·exact h.tag.lt b hb
def verL(vs:List Ver):List Value:=vs.flatMap Ver.cells
theorem verL_append(a b:List Ver):verL (a++b)=verL a++verL b:=by simp [verL]
theorem verL_len(l:List Ver):(verL l).length=l.length * 5:=by
 induction l with
 | nil=>rfl
 | cons x l ih=>
  show (x.cells++verL l).length=_;rw [List.length_append,ih];simp [Ver.cells];omega
theorem verL_get(l:List Ver):∀ (j:Nat) (x:Ver),l[j]? = some x→∀ i,i<5→(verL l)[j * 5+i]? = x.cells[i]?:=by
 induction l with
 | nil=>intro j x h;simp at h
 | cons y l ih=>
  intro j x h i hi;show (y.cells++verL l)[j * 5+i]? = _;cases j with
  | zero=>
   simp only [List.getElem?_cons_zero,Option.some.injEq] at h;subst h;rw [List.getElem?_append_left (by simp [Ver.cells];omega)];simp
  | succ j=>
   rw [List.getElem?_append_right (by simp [Ver.cells];omega)];have e:(j+1) * 5+i-y.cells.length=j * 5+i:=by simp [Ver.cells];omega
   rw [e];exact ih j x (by simpa using h) i hi
structure Vs where
 a:Option Addr
 c:Nat
 vs:List Ver
def Vs.v(V:Vs):Value:=.slice V.a V.vs.length V.c
def Vs.bs(V:Vs):List Nat:=(V.a.map (·.block)).toList++V.vs.flatMap Ver.bs
def Vs.no:Vs:=⟨none,0,[]⟩
structure VsAt(w:World)(V:Vs):Prop where
 src:SrcOf w V.v V.vs.length 5 (verL V.vs)
 lt:∀ ad,V.a=some ad→ad.block<w.heap.size
 each:∀ v∈V.vs,VerAt w v
 cap:V.vs.length≤V.c∧V.c≤maxLen
 plain:∀ ad,V.a=some ad→ad.spot=none
theorem VsAt.no(w:World):VsAt w Vs.no:=⟨.inl ⟨rfl,rfl,rfl⟩,by simp [Vs.no],by simp [Vs.no],by simp [Vs.no],by simp [Vs.no]⟩
theorem VsAt.ltb{w:World}{V:Vs}(h:VsAt w V):∀ b∈V.bs,b<w.heap.size:=fun b hb=>by
 rcases List.mem_append.1 hb with hb|hb
 ·cases ha:V.a with
  | none=>rw [ha] at hb;simp at hb
  | some ad=>
   rw [ha] at hb;simp at hb;subst hb;exact h.lt ad ha
 ·obtain ⟨v,hv,hb⟩:=List.mem_flatMap.1 hb;exact (h.each v hv).lt b hb
theorem VsAt.only{G:List Nat}{w w':World}{V:Vs}(h:VsAt w V)(k:Only G w w')(hG:∀ b∈V.bs,b∉G):VsAt w' V:=by
 refine ⟨?_,fun ad ha=>Nat.lt_of_lt_of_le (h.lt ad ha) k.size,fun v hv=>(h.each v hv).only k fun b hb=>hG b (List.mem_append_right _ (List.mem_flatMap.2 ⟨v,hv,hb⟩)),h.cap,h.plain⟩;rcases h.src with h1|⟨ad,c,e,hl,hc⟩
 ·exact .inl h1
 ·refine .inr ⟨ad,c,e,hl,fun j u hj=>?_⟩;have ha:V.a=some ad:=by unfold Vs.v at e;simp only [Value.slice.injEq] at e;exact e.1
  have hcj:=hc j u hj;have hlt:=h.lt ad ha;have hn:=hG ad.block (List.mem_append_left _ (by simp [ha]));have hsp:=h.plain ad ha;obtain ⟨ab,ao,as_⟩:=ad;simp only at hsp hlt hn;subst hsp;rw [add_plain] at hcj ⊢;rw [k.cell hlt hn];exact hcj
structure PTx where
 n:Int
 start:Int
 bt:Nat
 bm:Nat
 wr:List (Int×Ver)
structure PDB where
 dim:Int
 begun:Int
 last:Int
 all:List (Int×Vs)
 op:List PTx
def vsL(l:List (Int×Vs)):List (Int×Value):=l.map fun x=>(x.1,x.2.v)
def wrL(l:List (Int×Ver)):List (Int×Value):=l.map fun x=>(x.1,x.2.val)
def pxL(l:List PTx):List (Int×Value):=l.map fun o=>(o.n,.pointer (some ⟨o.bt,0,none⟩))
def PDB.cells(D:PDB)(ba bo:Nat):Array Value:=#[.int .i64 D.dim,.int .u64 D.begun,.int .u64 D.last,.map (some ba),.map (some bo)]
def pxB(l:List PTx):List Nat:=l.flatMap fun o=>[o.bt,o.bm]
def PDB.own(D:PDB)(p ba bo:Nat):List Nat:=p :: ba :: bo :: pxB D.op
def wrB(l:List (Int×Ver)):List Nat:=l.flatMap fun x=>x.2.bs
def PDB.reads(D:PDB):List Nat:=(D.all.flatMap fun x=>x.2.bs)++D.op.flatMap fun o=>wrB o.wr
structure PDB.Fine(D:PDB):Prop where
 dim:1≤D.dim∧D.dim≤4096
 begun:0≤D.begun∧D.begun≤1000000
 last:0≤D.last∧D.last≤1000000
 ops:∀ o∈D.op,0<o.n∧o.n≤D.begun∧0≤o.start∧o.start≤D.last
structure DbAt(w:World)(B p ba bo:Nat)(D:PDB):Prop where
 row:Row w p (D.cells ba bo) tDb
 am:MapAt w ba .u64 (vsL D.all)
 om:MapAt w bo .u64 (pxL D.op)
 oa:∀ o∈D.op,Row w o.bt #[.int .u64 o.start,.map (some o.bm)] tPx∧MapAt w o.bm .u64 (wrL o.wr)
 vsd:∀ x∈D.all,VsAt w x.2
 wrd:∀ o∈D.op,∀ y∈o.wr,VerAt w y.2
 nd:(D.own p ba bo).Nodup
 ge:∀ b∈D.own p ba bo,B≤b
 gr:∀ b∈D.reads,B≤b
 ap:∀ b∈D.own p ba bo,b∉D.reads
 fine:D.Fine
def DbF(w:World)(B p:Nat)(D:PDB)(F H:List Nat):Prop:=∃ ba bo,DbAt w B p ba bo D∧F=D.own p ba bo∧H=D.reads
theorem mem_pxB{l:List PTx}{o:PTx}(h:o∈l):o.bt∈pxB l∧o.bm∈pxB l:=⟨List.mem_flatMap.2 ⟨o,h,by simp⟩,List.mem_flatMap.2 ⟨o,h,by simp⟩⟩
theorem DbAt.lt{w:World}{B p ba bo:Nat}{D:PDB}(h:DbAt w B p ba bo D):∀ b∈D.own p ba bo,b<w.heap.size:=by
 intro b hb;simp only [PDB.own,List.mem_cons] at hb;rcases hb with rfl|rfl|rfl|hb
 ·exact h.row.lt
 ·exact h.am.lt
 ·exact h.om.lt
 ·obtain ⟨o,ho,hb⟩:=List.mem_flatMap.1 hb;simp at hb;rcases hb with rfl|rfl
  ·exact (h.oa o ho).1.lt
  ·exact (h.oa o ho).2.lt
theorem mem_reads1{D:PDB}{x:Int×Vs}(h:x∈D.all){b:Nat}(hb:b∈x.2.bs):b∈D.reads:=List.mem_append_left _ (List.mem_flatMap.2 ⟨x,h,hb⟩)
theorem mem_reads2{D:PDB}{o:PTx}(h:o∈D.op){y:Int×Ver}(hy:y∈o.wr){b:Nat}(hb:b∈y.2.bs):b∈D.reads:=List.mem_append_right _ (List.mem_flatMap.2 ⟨o,h,List.mem_flatMap.2 ⟨y,hy,hb⟩⟩)
theorem DbAt.ltr{w:World}{B p ba bo:Nat}{D:PDB}(h:DbAt w B p ba bo D):∀ b∈D.reads,b<w.heap.size:=by
 intro b hb;rcases List.mem_append.1 hb with hb|hb
 ·obtain ⟨x,hx,hb⟩:=List.mem_flatMap.1 hb;exact (h.vsd x hx).ltb b hb
 ·obtain ⟨o,ho,hb⟩:=List.mem_flatMap.1 hb;obtain ⟨y,hy,hb⟩:=List.mem_flatMap.1 hb;exact (h.wrd o ho y hy).lt b hb
theorem DbAt.only{G:List Nat}{w w':World}{B p ba bo:Nat}{D:PDB}(h:DbAt w B p ba bo D)(k:Only G w w')(hG:∀ b∈G,b∉D.own p ba bo∧b∉D.reads):DbAt w' B p ba bo D:=by
 have h1:∀ b,b∈D.own p ba bo→b∉G:=fun b hb hg=>(hG b hg).1 hb;have h2:∀ b,b∈D.reads→b∉G:=fun b hb hg=>(hG b hg).2 hb;exact ⟨h.row.only k (h1 _ (by simp [PDB.own])),h.am.only k (h1 _ (by simp [PDB.own])),h.om.only k (h1 _ (by simp [PDB.own])),
  fun o ho=>⟨(h.oa o ho).1.only k (h1 _ (by simp [PDB.own,(mem_pxB ho).1])),(h.oa o ho).2.only k (h1 _ (by simp [PDB.own,(mem_pxB ho).2]))⟩,
  fun x hx=>(h.vsd x hx).only k fun b hb=>h2 b (mem_reads1 hx hb),fun o ho y hy=>(h.wrd o ho y hy).only k fun b hb=>h2 b (mem_reads2 ho hy hb),h.nd,h.ge,h.gr,h.ap,h.fine⟩
theorem DbF.only{G F H:List Nat}{w w':World}{B p:Nat}{D:PDB}(h:DbF w B p D F H)(k:Only G w w')(hG:∀ b∈G,b∉F∧b∉H):DbF w' B p D F H:=by obtain ⟨ba,bo,h,rfl,rfl⟩:=h;exact ⟨ba,bo,h.only k hG,rfl,rfl⟩
theorem DbF.lt{F H:List Nat}{w:World}{B p:Nat}{D:PDB}(h:DbF w B p D F H):(∀ b∈F,b<w.heap.size)∧∀ b∈H,b<w.heap.size:=by obtain ⟨ba,bo,h,rfl,rfl⟩:=h;exact ⟨h.lt,h.ltr⟩
theorem DbF.ge{F H:List Nat}{w:World}{B p:Nat}{D:PDB}(h:DbF w B p D F H):(∀ b∈F,B≤b)∧∀ b∈H,B≤b:=by obtain ⟨ba,bo,h,rfl,rfl⟩:=h;exact ⟨h.ge,h.gr⟩
end Go.Proofs.YtcgmgdjeamidlaaGreat
