/- Texts of one proof, joined. -/
import Derived.Test.YtcgmgdjeamidlaaGreatMg02
import Derived.OwnWalkIn
import Derived.Sort.MapsRangeIn
import Derived.TacticsInMore
namespace Go.Proofs.YtcgmgdjeamidlaaGreat
set_option maxRecDepth 100000
set_option maxHeartbeats 16000000
open Go.RowKit Go.Proofs.Tryz
open Go.ChangeMaps (setBlock)
open Go.MapKept (Stamped)
set_option linter.unusedVariables false
set_option linter.unusedSimpArgs false
section
variable {F:Fence} {nF:Nat} {P:Program} (w:World) {ops:Array Oper} {rest:List Oper} {o:Oper} {a:Act} {Q:Exit→Act→World→Prop}
theorem wpListIn_look_at(hg:o.guard=none)(m x:Operand)(t:TypeId)(ok:Bool)(hop:o.op=Op.lookup t m x ok)(kt et:TypeId)(q:IntKind)(ht:P.underlying t=some (.map kt et))(hk:P.underlying kt=some (.int q))(z:Value)(hz:∀ w,(zeroValue et).run P w=.ok z w)
  (b:Nat) (L:List (Int×Value)) (hm:a.eval m=.map (some b)) (hown:MapAt w b q L) (key:Int) (hx:a.eval x=.int q key)
  (hK:wpListIn F nF P ops Q rest (a.put o.dst (if ok then .tuple #[(lk key L).getD z,.bool (lk key L).isSome] else (lk key L).getD z)) w):wpListIn F nF P ops Q (o :: rest) a w:=by
 refine wpListIn_plain hg fun K' hK'=>?_;have hrun:=hown.look (P:=P) ht hk (hz w) key ok;unfold Oper.wpIn;refine ⟨by simp [Oper.about,hop,resolve,Target.leads,Result.andThen,go_sem],?_⟩;rw [Oper.semAt_plain F _ _ (by rw [hop];intro c hc';cases hc')];simp [execOp,hop,hm,hx,hrun,Result.andThen];exact hK' _ _ hK
theorem wpListIn_range_at(hg:o.guard=none)(m:Operand)(t:TypeId)(hop:o.op=Op.range t m)(kt et:TypeId)(q:IntKind)(ht:P.underlying t=some (.map kt et))(b:Nat)(L:List (Int×Value))(hm:a.eval m=.map (some b))(hown:MapAt w b q L)
  (hK:∀ w',Rng w' b w.heap.size q L L→Only [] w w'→w'.heap.size=w.heap.size+1→wpListIn F nF P ops Q rest (a.put o.dst (.pointer (some ⟨w.heap.size,0,none⟩))) w'):wpListIn F nF P ops Q (o :: rest) a w:=by
 refine wpListIn_plain hg fun K' hK'=>?_;have hlt:=hown.lt;obtain ⟨es,clock,hb,hs,hL⟩:=hown;have hrun:=run_range_map (P:=P) w t kt et b es clock ht hb;unfold Oper.wpIn;refine ⟨by simp [Oper.about,hop,resolve,Target.leads,Result.andThen,go_sem],?_⟩;rw [Oper.semAt_plain F _ _ (by rw [hop];intro c hc';cases hc')];simp [execOp,hop,hm,hrun,Result.andThen];refine hK' _ _ (hK _ ⟨es,clock,clock,#[],clock,((MapKept.heap_alloc w _).2 b hlt).trans hb,hs,hL,(MapKept.heap_alloc w _).1,hs.1,Θ _,Θ _,?_⟩ ((Ω [] w).alloc _) (by simp));have:(leftOf es #[]).toList=es.toList:=by simp [leftOf]
 rw [this];exact hL
theorem wpListIn_next_at(hg:o.guard=none)(it:Operand)(hop:o.op=Op.next it false)(b r:Nat)(q:IntKind)(L left:List (Int×Value))(hit:a.eval it=.pointer (some ⟨r,0,none⟩))(h:Rng w b r q L left)
  (hDone:left=[]→wpListIn F nF P ops Q rest (a.put o.dst (.tuple #[.bool false])) w)
  (hMore:∀ (k:Int) (v:Value) (w':World),(k,v)∈left→Rng w' b r q L (rm k left)→Only [r] w w'→w'.heap.size=w.heap.size→(Instr.entry (.pointer (some ⟨r,0,none⟩))).run P w'=.ok (.tuple #[.int q k,v]) w'→wpListIn F nF P ops Q rest (a.put o.dst (.tuple #[.bool true,.int q k,v])) w') :
  wpListIn F nF P ops Q (o :: rest) a w:=by
 refine wpListIn_plain hg fun K' hK'=>?_;have hne:r≠b:=by obtain ⟨es,clock,since,seen,c0,hb,_,_,hr,_⟩:=h;intro e;rw [e,hb] at hr;cases hr
 obtain ⟨es,clock,since,seen,c0,hb,hs,hL,hr,hold,hsc,hck,hl⟩:=h;unfold Oper.wpIn;refine ⟨by simp [Oper.about,hop,resolve,Target.leads,Result.andThen,go_sem],?_⟩;rw [Oper.semAt_plain F _ _ (by rw [hop];intro c hc';cases hc')];rcases run_next_at (P:=P) w o.type r b since c0 seen es clock hr hb hold hsc with ⟨h0,hrun⟩|⟨e,he,w1,hal,hrun⟩
 ·simp [execOp,hop,hit,hrun,Result.andThen];refine hK' _ _ (hDone ?_);have:(leftOf es seen).toList=[]:=by have:=Array.eq_empty_of_size_eq_zero h0;rw [this]
  rw [this] at hl;simpa using hl.symm
 ··obtain ⟨k,hk,hmem,hR⟩:=rng_step hne hb hs hL hr hold hsc hl hal he hck;have he':e∈es.toList:=by simp [leftOf] at he;simpa using he.1
   have hnd:(es.toList.map (·.born)).Nodup:=hs.2.1;rw [hk] at hrun;simp [execOp,hop,hit,hrun,Result.andThen];have hO:Only [r] w (setBlock w1 r (.mapIter (some b) since (seen.push e.born) clock)):=by
    rcases hal with rfl|rfl
    ·exact setBlock_only
    ·exact ((Ω [r] w).drew).trans setBlock_only (by simp)
   have hb1:(setBlock w1 r (.mapIter (some b) since (seen.push e.born) clock)).heap[b]? = some (.map es clock):=by rw [turned_only.1 b (fun h=>hne h.symm)];rcases hal with rfl|rfl<;>exact hb
   have hr1:(setBlock w1 r (.mapIter (some b) since (seen.push e.born) clock)).heap[r]? = some (.mapIter (some b) since (seen.push e.born) clock):=by
    have:r<w1.heap.size:=by rcases hal with rfl|rfl<;>exact (Array.getElem?_eq_some_iff.1 hr).1
    simp only [setBlock];rw [Array.getElem?_setIfInBounds_self_of_lt this]
   have hen:=run_entry_at (P:=P) _ r b since seen es clock e hr1 hb1 he' hnd;rw [hk] at hen;refine hK' _ _ (hMore k e.val _ hmem hR hO ?_ hen);rw [turned_only.2];rcases hal with rfl|rfl<;>rfl
end
end Go.Proofs.YtcgmgdjeamidlaaGreat
