/- Texts of one proof, joined. -/
import Derived.Test.YtcgmgdjeamidlaaGreatVcB
import Derived.StillTailTactics
import Derived.Deep.QuietTactic
import Derived.BigQuiet
namespace Go.Proofs.YtcgmgdjeamidlaaGreat.vc
set_option maxRecDepth 100000
set_option maxHeartbeats 16000000
open Go.RowKit
theorem region_still_tail{P:Program}{id:Nat}{Q:Exit→Act→World→Prop}{a:Act}{w:World}{l:List Oper}(n:Nat)(hm:P.follows .mixedOrders=true)(hB:Region.lexTailB .any l.toArray n=true)
  (h:wpStill P l.toArray w.drew (fun a'=>wpList P l.toArray Q (l.drop n) a' w.drew) (l.take n) a):(Code.region id l.toArray true).wp P Q a w:=
 wp_region_still_tail n hm hB h
def cmpF(a b:Int):Int:=if a<b then -1 else if b<a then 1 else 0
def orF(a b:Int):Int:=if a=0 then b else a
def ordF(k1 d1 k2 d2:Int):Int:=orF (cmpF d1 d2) (cmpF k1 k2)
theorem orF_ne{a b:Int}(h:(a != 0)=true):a=orF a b:=by unfold orF;rw [if_neg (by simpa using h)]
theorem orF_eq{a b:Int}(h:(a != 0)=false):b=orF a b:=by unfold orF;rw [if_pos (by simpa using h)]
theorem ordF_eq(k1 d1 k2 d2:Int):ordF k1 d1 k2 d2=if d1<d2 then -1 else if d2<d1 then 1 else if k1<k2 then -1 else if k2<k1 then 1 else 0:=by unfold ordF orF cmpF;(repeat' split)<;>simp_all
theorem ordF_spec(k1 d1 k2 d2:Int):(ordF k1 d1 k2 d2 = -1∧(d1<d2∨(d1=d2∧k1<k2)))∨(ordF k1 d1 k2 d2=1∧(d2<d1∨(d1=d2∧k2<k1)))∨(ordF k1 d1 k2 d2=0∧d1=d2∧k1=k2):=by rw [ordF_eq];(repeat' split)<;>omega
theorem cmp64_any(a b:Int)(w:World):Calls Tryz.prog 272 #[.int .i64 a,.int .i64 b] w fun e w'=>e=.returned (.int .i64 (cmpF a b))∧w'=w:=by
 go_enter Tryz.func272,Tryz.ntmps272
 go_wp2
 all_goals go_ret
 all_goals refine ⟨ret_int ?_,rfl⟩
 all_goals (unfold cmpF;repeat' split)
 all_goals first|rfl|omega
theorem cmpu64_any(a b:Int)(w:World):Calls Tryz.prog 273 #[.int .u64 a,.int .u64 b] w fun e w'=>e=.returned (.int .i64 (cmpF a b))∧w'=w:=by
 go_enter Tryz.func273,Tryz.ntmps273
 go_wp2
 all_goals go_ret
 all_goals refine ⟨ret_int ?_,rfl⟩
 all_goals (unfold cmpF;repeat' split)
 all_goals first|rfl|omega
theorem or2_any(a b:Int)(B c:Nat)(w:World)(h0:w.cell? ⟨B,0,none⟩=some (.int .i64 a))(h1:w.cell? ⟨B,1,none⟩=some (.int .i64 b)) :
  Calls Tryz.prog 271 #[.slice (some ⟨B,0,none⟩) 2 c] w fun e w'=>e=.returned (.int .i64 (orF a b))∧w'=w:=by
 go_enter Tryz.func271,Tryz.ntmps271
 go_wp2
 go_loop [8] (fun i=>∃ k:Nat,k≤2∧i=.int .i64 k∧(0<k→(a != 0)=false)∧(1<k→(b != 0)=false)) (fun i=>2-(intOf i).toNat)
 case atStart=>exact ⟨0,by omega,rfl,by omega,by omega⟩
 case round=>
  obtain ⟨k,hk,rfl,r1,r2⟩:=hrel;have hk3:k=0∨k=1∨k=2:=by omega
  rcases hk3 with rfl|rfl|rfl
  ·clear r1 r2;by_cases ha:(a != 0)=true
   ·have HA:=Lib.hid ha
    go_wp2
    go_ret;exact ⟨ret_int (orF_ne HA.out),rfl⟩
   ·have ha':(a != 0)=false:=by simpa using ha
    clear ha
    go_wp2
    go_round
    case rel=>exact ⟨1,by omega,by go_num,fun _=>ha',by omega⟩
    case measure=>simp [intOf]
  ·have ha:=r1 (by omega);clear r1 r2;have HA:=Lib.hid ha;by_cases hb:(b != 0)=true
   ·go_wp2
    go_ret;exact ⟨ret_int (orF_eq HA.out),rfl⟩
   ·have hb':(b != 0)=false:=by simpa using hb
    clear hb
    go_wp2
    go_round
    case rel=>exact ⟨2,by omega,by go_num,fun _=>ha,fun _=>hb'⟩
    case measure=>simp [intOf]
  ·have ha:=r1 (by omega);have hb:=r2 (by omega);have hb0:b=0:=by simpa using hb
   clear r1 r2;have HB:=Lib.hid hb0;have HA:=Lib.hid ha;clear hb0 hb
   go_wp2
   go_ret;exact ⟨ret_int (HB.out.symm.trans (orF_eq HA.out)),rfl⟩
theorem order_full(k1 d1 k2 d2:Int)(w:World) :
  Calls Tryz.prog 262 #[.agg #[.int .u64 k1,.int .i64 d1],.agg #[.int .u64 k2,.int .i64 d2]] w fun e w'=>e=.returned (.int .i64 (ordF k1 d1 k2 d2))∧w'=(((w.alloc (.cells #[.int .u64 k1,.int .i64 d1] 118)).alloc (.cells #[.int .u64 k2,.int .i64 d2] 118)).alloc (.cells #[.int .i64 (cmpF d1 d2),.int .i64 (cmpF k1 k2)] 3)).drew:=by
 go_enter Tryz.func262,Tryz.ntmps262
 go_wp2
 refine region_still_tail 10 (by kernel_rfl) (by kernel_rfl) ?_;simp only [List.take_succ_cons,List.take_zero,List.drop_succ_cons,List.drop_zero];repeat still_step
 still_call (cmp64_any _ _ _)
 repeat still_step
 still_call (cmpu64_any _ _ _)
 refine wpStill_nil ?_;go_wp2_with fail;refine (or2_any (cmpF d1 d2) (cmpF k1 k2) _ _ _ ?_ ?_).mono ?_
 ·simp [go_sem]
 ·simp [go_sem]
 ·rintro e w' ⟨rfl,rfl⟩
  go_wp2
  go_ret;exact ⟨rfl,rfl⟩
theorem order_any(k1 d1 k2 d2:Int)(w:World) :
  Calls Tryz.prog 262 #[.agg #[.int .u64 k1,.int .i64 d1],.agg #[.int .u64 k2,.int .i64 d2]] w fun e w'=>e=.returned (.int .i64 (ordF k1 d1 k2 d2))∧Below w.heap.size w w':=
 (order_full k1 d1 k2 d2 w).mono fun e w' ⟨h1,h2⟩=>⟨h1,h2 ▸ ((((Below.refl _ _).alloc (Nat.le_refl _) _).alloc (by simp) _).alloc (by simp;omega) _).drew⟩
def After(B:Nat)(W:World):Type:={ w':World // Below B W w' }
instance After.nonempty (B:Nat) (W:World):Nonempty (After B W):=⟨⟨W,Below.refl _ _⟩⟩
end Go.Proofs.YtcgmgdjeamidlaaGreat.vc
