/- Texts of one proof, joined. -/
import Derived.Test.YtcgmgdjeamidlaaGreatMapC
import Derived.RangeFuncNested
import Derived.RangeFuncBound
import Derived.RangeFuncCalls
import Derived.RangeFuncLeaves
namespace Go.Proofs.YtcgmgdjeamidlaaGreat
set_option maxRecDepth 100000
set_option maxHeartbeats 16000000
open Go.RowKit Go.Proofs.Tryz
set_option linter.unusedVariables false
theorem putObj_only(W:World)(b:Nat)(o:Obj):Only [b] W (W.putObj b o):=by have hg:=grownBy_putObj' W b o;exact ⟨hg.os,hg.tape,hg.output,hg.size,fun i hi hn=>hg.block i hi (by simp at hn;simpa using hn)⟩
structure RecAt(D:Nat)(rec:LoopState→Option Code→Loop)(st:LoopState)(pe:Option Code)(W:World):Prop where
 loop:W.heap[D+1]? = some (.loop (rec st pe))
 laid:W.heap[D]? = some (.deferred (some []))
def Keeps2(D:Nat)(W W':World):Prop:=W'.heap[D+1]? = W.heap[D+1]?∧W'.heap[D]? = W.heap[D]?
theorem Keeps2.refl(D:Nat)(W:World):Keeps2 D W W:=⟨rfl,rfl⟩
theorem Keeps2.trans{D:Nat}{X Y Z:World}(h:Keeps2 D X Y)(k:Keeps2 D Y Z):Keeps2 D X Z:=⟨k.1.trans h.1,k.2.trans h.2⟩
theorem Keeps2.of{D:Nat}{G:List Nat}{W W':World}(k:Only G W W')(hs:D+1<W.heap.size)(h0:D∉G)(h1:D+1∉G):Keeps2 D W W':=⟨k.block _ hs h1,k.block _ (by omega) h0⟩
theorem RecAt.kept{D:Nat}{rec:LoopState→Option Code→Loop}{st:LoopState}{pe:Option Code}{W W':World}(h:RecAt D rec st pe W)(k:Keeps2 D W W'):RecAt D rec st pe W':=
 ⟨k.1.trans h.loop,k.2.trans h.laid⟩
theorem RecAt.lt{D:Nat}{rec:LoopState→Option Code→Loop}{st:LoopState}{pe:Option Code}{W:World}(h:RecAt D rec st pe W):D+1<W.heap.size:=(Array.getElem?_eq_some_iff.1 h.loop).1
theorem RecAt.turned{D:Nat}{rec:LoopState→Option Code→Loop}{st st':LoopState}{pe pe':Option Code}{W:World}(h:RecAt D rec st pe W):RecAt D rec st' pe' (W.putObj (D+1) (.loop (rec st' pe'))):=
 ⟨World.putObj_heap_same (Array.getElem?_eq_some_iff.1 h.loop).1,(World.putObj_heap_other (by omega)).trans h.laid⟩
def roundEnd(D:Nat)(rec:LoopState→Option Code→Loop)(R:Ending→World→Prop)(W:World):Exit→Act→World→Prop
 | .normal,_,W3=>Keeps2 D W W3∧∀ W4,Only [D+1] W3 W4→RecAt D rec .ready none W4→R (.returned (.bool true)) W4
 | .ret,_,W3=>Keeps2 D W W3∧∀ W4,Only [D+1] W3 W4→RecAt D rec .done (some .ret) W4→R (.returned (.bool false)) W4
 | .exit id,_,W3=>Keeps2 D W W3∧∀ W4,Only [D+1] W3 W4→RecAt D rec .done (some (.exit id)) W4→R (.returned (.bool false)) W4
 | .goto t,_,W3=>Keeps2 D W W3∧∀ W4,Only [D+1] W3 W4→RecAt D rec .done (some (.goto t)) W4→R (.returned (.bool false)) W4
 | .panic _,_,_=>False
 | .outgrown,_,_=>False
def recOf(fn:FuncId)(tmps:Array Value)(ps:Array Tmp)(assign body:Code)(D:Nat):LoopState→Option Code→Loop:=fun st pe=>{ state:=st,pending:=pe,fn:=fn,tmps:=tmps,params:=ps,assign:=assign,body:=body,defers:=D }
theorem yieldAt_body{F:Fence}{n:Nat}{P:Program}{fn:FuncId}{tmps:Array Value}{ps:Array Tmp}{assign body:Code}{D:Nat}{args:Array Value}{W:World}{R:Ending→World→Prop}(hfn:F.fn fn)
  (hr:RecAt D (recOf fn tmps ps assign body D) .ready none W) (hps:args.size=ps.size)
  (h:assign.wpIn (F.inRound (D+1)) n P (Exit.then (fun a1 W1=>Keeps2 D W W1∧∀ W2,Only [D+1] W1 W2→RecAt D (recOf fn tmps ps assign body D) .busy none W2 →
   body.wpIn (F.inRound (D+1)) n P (roundEnd D (recOf fn tmps ps assign body D) R W2) a1 W2) (fun _ _ _=>False)) { tmps:=(ps.zip args).foldl (fun t (p,v)=>t.setIfInBounds p v) tmps,defers:=[] } W) :
  YieldAt F n P (D+1) args W R:=by
 have hy:=run_yield (P:=P) (args:=args) hr.loop hps;refine ⟨fn,_,assign,body,hy,roundIn_of_wpIn hfn (wpIn_mono h ?_)⟩;intro e a1 W1 hq;cases e with
 | normal=>
  obtain ⟨hk,hb⟩:=hq;have hr1:=hr.kept hk;refine ⟨_,run_beginRound hr1.loop rfl,wpIn_mono (hb _ (putObj_only _ _ _) hr1.turned) ?_⟩;have hr2:RecAt D (recOf fn tmps ps assign body D) .busy none _:=hr1.turned;intro e2 a2 W3 hp;cases e2 with
  | normal=>
   obtain ⟨hk3,hR⟩:=hp;have hr3:=hr2.kept hk3;exact ⟨_,_,run_endRound none hr3.loop,hR _ (putObj_only _ _ _) hr3.turned⟩
  | ret=>
   obtain ⟨hk3,hR⟩:=hp;have hr3:=hr2.kept hk3;exact ⟨_,_,run_endRound (some .ret) hr3.loop,hR _ (putObj_only _ _ _) hr3.turned⟩
  | exit id=>
   obtain ⟨hk3,hR⟩:=hp;have hr3:=hr2.kept hk3;exact ⟨_,_,run_endRound (some (.exit id)) hr3.loop,hR _ (putObj_only _ _ _) hr3.turned⟩
  | goto t=>
   obtain ⟨hk3,hR⟩:=hp;have hr3:=hr2.kept hk3;exact ⟨_,_,run_endRound (some (.goto t)) hr3.loop,hR _ (putObj_only _ _ _) hr3.turned⟩
  | panic ch=>exact hp.elim
  | outgrown=>exact hp.elim
 | exit id=>exact hq.elim
 | goto t=>exact hq.elim
 | ret=>exact hq.elim
 | panic ch=>exact hq.elim
 | outgrown=>exact hq.elim
theorem wpIn_range_rec{F:Fence}{n:Nat}{P:Program}{g:Operand}{ps:Array Tmp}{assign body:Code}{Q:Exit→Act→World→Prop}{a:Act}{w:World}
  (hro:F.round=none) (h1:1≤n) {gf:Nat} {lb:Array Value} (hg:a.eval g=.func (.func gf) #[] lb) (hFg:F.fn gf) (eg:∀ args w,(callFunc gf args).run P w=.ok (.enter gf args) w)
  (h:∀ fn W1,F.fn fn→RecAt w.heap.size (recOf fn a.tmps ps assign body w.heap.size) .ready none W1→Only [] w W1→W1.heap.size=w.heap.size+2 →
   CallsIn F (n-1) P gf (#[.func (.yield (w.heap.size+1)) #[] #[]]++lb) W1 fun e W2=>(∃ v,e=.returned v) ∧
    ((RecAt w.heap.size (recOf fn a.tmps ps assign body w.heap.size) .ready none W2∧∀ W3,Only [w.heap.size+1] W2 W3→W3.heap[w.heap.size]? = some (.deferred (some []))→Q .normal { a with defers:={ target:=.collected w.heap.size,args:=#[] } :: a.defers } W3) ∨
     (∃ c,RecAt w.heap.size (recOf fn a.tmps ps assign body w.heap.size) .done (some c) W2∧∀ W3,Only [w.heap.size+1] W2 W3→W3.heap[w.heap.size]? = some (.deferred (some []))→c.wpIn F n P Q { a with defers:={ target:=.collected w.heap.size,args:=#[] } :: a.defers } W3))) :
  (Code.rangeFunc g ps assign body).wpIn F n P Q a w:=by
 refine wpIn_rangeFunc ?_;intro fn hfn;rw [hro];have hR:RecAt w.heap.size (recOf fn a.tmps ps assign body w.heap.size) .ready none ((w.alloc (.deferred (some []))).alloc (.loop (recOf fn a.tmps ps assign body w.heap.size .ready none))):=by
  refine ⟨?_,?_⟩
  ·have:=World.alloc_heap_new (w.alloc (.deferred (some []))) (.loop (recOf fn a.tmps ps assign body w.heap.size .ready none))
   rwa [World.size_alloc] at this
  ·exact (Below.heap_alloc _ _ _ (by simp)).trans (World.alloc_heap_new w _)
 have hO:Only [] w ((w.alloc (.deferred (some []))).alloc (.loop (recOf fn a.tmps ps assign body w.heap.size .ready none))):=((Ω [] w).alloc _).alloc _;have hz:((w.alloc (.deferred (some []))).alloc (.loop (recOf fn a.tmps ps assign body w.heap.size .ready none))).heap.size=w.heap.size+2:=by simp
 have hE:(Instr.enterLoop fn a.tmps ps assign body none).run P w=.ok (w.heap.size+1,[{ target:=.collected w.heap.size,args:=#[] }]) ((w.alloc (.deferred (some []))).alloc (.loop (recOf fn a.tmps ps assign body w.heap.size .ready none))):=run_enterLoop_outer _ _ _ _ _;generalize (w.alloc (.deferred (some []))).alloc (.loop (recOf fn a.tmps ps assign body w.heap.size .ready none))=W1 at hR hO hz hE;refine ⟨w.heap.size+1,[{ target:=.collected w.heap.size,args:=#[] }],W1,{ target:=.fn (.func gf) lb,args:=#[.func (.yield (w.heap.size+1)) #[] #[]] },W1,gf,
  #[.func (.yield (w.heap.size+1)) #[] #[]]++lb,W1,hE,?_,?_,?_,fun _=>h1,?_⟩
 ·simp only [resolve,hg];simp [go_sem]
 ·intro f' hf';simp [Target.leads] at hf';subst hf';exact hFg
 ·simp [invoke,go_sem,eg]
 ·refine (h fn W1 hfn hR hO hz).mono ?_;rintro e W2 ⟨⟨v,rfl⟩,(⟨hr,hq⟩|⟨c,hr,hq⟩)⟩
  ·exact ⟨none,_,run_endLoop hr.loop (by simp [recOf]),hq _ (putObj_only _ _ _) (hr.turned (st':=.exhausted) (pe':=_)).laid⟩
  ·exact ⟨some c,_,run_endLoop hr.loop (by simp [recOf]),hq _ (putObj_only _ _ _) (hr.turned (st':=.exhausted) (pe':=_)).laid⟩
end Go.Proofs.YtcgmgdjeamidlaaGreat
