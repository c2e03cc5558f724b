/- Printed small by mini.py. -/
import Derived.Test.YtcgmgdjeamidlaaGreatRsQ
namespace Go.Proofs.YtcgmgdjeamidlaaGreat.sessionNone
set_option maxRecDepth 100000
set_option maxHeartbeats 16000000
open Go.ChangeShapes Go.WideShapes Go.ChangeAt Go.RowKit Go.Joins
set_option linter.unusedVariables false
set_option linter.unusedSimpArgs false
def Goal(v:Value)(W:World):Prop:=Calls Tryz.prog 6 #[v] W fun e w'=>e=.returned (.bool true)∧Below W.heap.size W w'
theorem walk(a0:Option Addr)(n0 c0:Nat)(z0:List Int)(W:World)(w0:IsRow .u8 W a0 n0 c0 z0)(r0:c0 * 1≤140737488351232):Goal (.slice a0 n0 c0) W:=by
 unfold Goal;clear w0 r0;by_cases hn0:n0≤25000
 ·have d1:decide ((25000:Int)<(n0:Int))=false:=Λ (by omega);have d1':decide (25000<n0)=false:=Λ (by omega);have Z1:=Ξ (Φ W #[.nilIface,.int .u64 0] tSs);have B1:Hid (Below W.heap.size W (W.alloc (.cells #[.nilIface,.int .u64 0] tSs))):=Ξ ((Δ _ W).alloc (Θ _) _);have SN:=Ξ (sess_new_nil (W.alloc (.cells #[.nilIface,.int .u64 0] tSs)));clear hn0;go_enter Tryz.func6,Tryz.ntmps6;go_wp2_with fail;refine SN.out.mono ?_;obtain ⟨g,hg⟩:∃ g,g=W.heap.size:=⟨_,rfl⟩;have GG:=Ξ hg;generalize W.alloc (.cells #[.nilIface,.int .u64 0] tSs)=w1 at *;rintro _ w2 ⟨rfl,hw⟩;have N2:Hid (Row w2 w1.heap.size #[.nilIface,.int .u64 0] tSs∧Row w2 W.heap.size #[.nilIface,.int .u64 0] tSs∧Below W.heap.size W w2∧W.heap.size<w1.heap.size):=Ξ (by rw [hw];exact ⟨Φ w1 _ _,Z1.out.only ((Ω [] w1).alloc _) (by simp),B1.out.alloc B1.out.size _,Z1.out.lt⟩)
  have FT:=Ξ (rformtell2 (er:=1) (pl:=0) (w:=w2) (by omega) (by omega) (by omega) (by omega));generalize w1.heap.size=h at *;clear hw hg SN Z1 B1;go_wp2_with fail;refine FT.out.mono ?_;rintro _ w3 ⟨v3,rfl,ho3,hb3⟩;have CV:=conv_ints (ints_own ho3);have N3:Hid (Row w3 h #[.nilIface,.int .u64 0] tSs∧Row w3 W.heap.size #[.nilIface,.int .u64 0] tSs∧Below W.heap.size W w3∧W.heap.size<h):=Ξ ⟨N2.out.1.only ((Ω [] w2).below hb3) (by simp),N2.out.2.1.only ((Ω [] w2).below hb3) (by simp),N2.out.2.2.1.trans (hb3.mono N2.out.2.2.1.size),N2.out.2.2.2⟩;obtain ⟨S0,hS⟩:∃ S,strOfNums ([2]++[1]++leB 0 2)=S:=⟨_,rfl⟩;rw [hS] at CV;have HS:=Ξ hS;clear ho3 hb3 FT N2 hS;go_wp2_with fail;refine (do_nil _ w3).mono ?_;rintro _ w4 ⟨rfl,hw⟩;subst w4;go_wp2_with fail;refine (stxn_nil w3).mono ?_;rintro _ w4 ⟨rfl,hw⟩;subst w4;go_wp2_with fail;refine (sdrop_nil w3).mono ?_;rintro _ w4 ⟨rfl,hw⟩;subst w4;have D1:=Ξ (do_none N3.out.2.1 (.slice a0 n0 c0));clear CV;go_wp2_with fail;refine D1.out.mono ?_;rintro _ w4 ⟨v4,rfl,ho4,hb4⟩;have C4:=conv_ints (ints_own ho4);have N4:Hid (Row w4 h #[.nilIface,.int .u64 0] tSs∧Row w4 W.heap.size #[.nilIface,.int .u64 0] tSs∧Below W.heap.size W w4∧W.heap.size<h):=Ξ ⟨N3.out.1.only ((Ω [] w3).below hb4) (by simp),N3.out.2.1.only ((Ω [] w3).below hb4) (by simp),N3.out.2.2.1.trans (hb4.mono N3.out.2.2.1.size),N3.out.2.2.2⟩;unfold nilB at C4;rw [HS.out] at C4;have D2:=Ξ (do_none N4.out.1 (.slice a0 n0 c0));clear ho4 hb4 D1 N3;go_wp2_with fail;refine D2.out.mono ?_;clear C4;rintro _ w5 ⟨v5,rfl,ho5,hb5⟩;have C5:=conv_ints (ints_own ho5);have N5:Hid (Row w5 h #[.nilIface,.int .u64 0] tSs∧Row w5 W.heap.size #[.nilIface,.int .u64 0] tSs∧Below W.heap.size W w5∧W.heap.size<h):=Ξ ⟨N4.out.1.only ((Ω [] w4).below hb5) (by simp),N4.out.2.1.only ((Ω [] w4).below hb5) (by simp),N4.out.2.2.1.trans (hb5.mono N4.out.2.2.1.size),N4.out.2.2.2⟩;unfold nilB at C5;rw [HS.out] at C5;have TX:=Ξ (txn_on N5.out.1);clear ho5 hb5 D2 N4;go_wp2_with fail;refine TX.out.mono ?_;rintro _ w6 ⟨rfl,hw⟩;subst w6;have DR:=Ξ (sdrop_none N5.out.1);clear C5 TX;go_wp2_with fail;refine DR.out.mono ?_;rintro _ w6 ⟨rfl,hw⟩;have N6:Hid (Row w6 W.heap.size #[.nilIface,.int .u64 0] tSs∧Below W.heap.size W w6):=Ξ (by
   have k:Only [h] w5 w6:=by rw [hw];exact (Ω [h] w5).setCell (.inl (by simp)) _
   exact ⟨N5.out.2.1.only k (by have:=N5.out.2.2.2;simp;omega),N5.out.2.2.1.trans (k.toBelow N5.out.2.2.1.size (by have:=N5.out.2.2.2;simp;omega))⟩)
  have DZ:=Ξ (sdrop_none N6.out.1);clear hw DR N5;go_wp2_with fail;refine DZ.out.mono ?_;rintro _ w7 ⟨rfl,hw⟩;have B7:Hid (Below W.heap.size W w7):=Ξ (by rw [hw];exact N6.out.2.setCell (Θ _) _);have KN:=Ξ (known23 w7);clear hw DZ N6;go_wp2_with fail;refine KN.out.mono ?_;rintro _ w8 ⟨rfl,hb⟩;have BE:=Ξ (B7.out.trans (hb.mono B7.out.size));clear hb KN;go_wp2_with fail;go_ret;exact ⟨rfl,BE.out⟩
 ·have d1:decide ((25000:Int)<(n0:Int))=true:=Γ (by omega);have d1':decide (25000<n0)=true:=Γ (by omega);have KN:=Ξ (known23 W);clear hn0;go_enter Tryz.func6,Tryz.ntmps6;go_wp2_with fail;refine KN.out.mono ?_;rintro _ w9 ⟨rfl,hb⟩;have BE:=Ξ hb;clear hb;go_wp2_with fail;go_ret;exact ⟨rfl,BE.out⟩
theorem own:ownKnob Tryz.prog.godebug=none:=by kernel_rfl
theorem laidOut:laidOutB Tryz.prog=true:=by kernel_rfl
theorem contract(H:Type)(enc:TypeId×Value→H)(W:World)(base:Nat)(args:Array Value)(ds gs:List (DataW H))(before:List MemPlace)
  (hval0:∀ (j:Nat) t v,Tryz.f6.params[j]? = some t→args[j]? = some v→Value.okWide Tryz.prog W .any base t v)
  (hW:DataW.Whole enc Tryz.prog Tryz.f6.params.toList Rows.sessionNoneSpec.vars false W args.toList ds gs before)
  (hsz0:(DataW.weightsEach Tryz.prog (Tryz.f6.params.toList++Rows.sessionNoneSpec.plain.varTypes Tryz.prog) (ds++gs)).all (·≤reachBytes)=true) :
  Calls Tryz.prog 6 args W fun e W'=>∃ v,e=.returned v∧Rows.sessionNoneSpec.post enc Tryz.prog Tryz.f6 false true false false W args v W':=by
 have hval:∀ (j:Nat) t v,Tryz.f6.params[j]? = some t→args[j]? = some v→Value.okWide Tryz.prog W .any base t v:=hval0;have hW':=hW;obtain ⟨p,q,hA0,hV,rfl,hfz,hnd⟩:=hW;have hA:DataW.TrodAll enc Tryz.prog W 0 (fun _=>true) true Tryz.f6.params.toList args.toList ds p:=hA0;have hsz:(DataW.weightsEach Tryz.prog (Tryz.f6.params.toList++Rows.sessionNoneSpec.plain.varTypes Tryz.prog) (ds++gs)).all (·≤reachBytes)=true:=hsz0;rw [Tryz.params6] at hA hval hsz;obtain ⟨v0,vs0,d0,ds0,p0,q0,hargs,rfl,rfl,h0,r0'⟩:=trodAll_cons hA;obtain ⟨rfl,rfl,rfl⟩:=trodAll_nil r0';obtain rfl:args=#[v0]:=by cases args;simp_all
 obtain ⟨rfl,rfl⟩:=trodVars_none hV;have k0:=h0;have lt0:∀ x∈p0,x.block<W.heap.size:=by obtain ⟨m,hm⟩:=k0;exact DataW.trod_lt m _ _ _ hm
 obtain ⟨a0,n0,c0,rfl⟩:=okWide_slice Tryz.underlying30 (hval 0 30 v0 rfl rfl);obtain ⟨z0,w0,r0⟩:∃ zs,IsRow .u8 W a0 n0 c0 zs∧c0 * 1≤140737488351232:=by
  obtain ⟨fuel,hf⟩:=h0;rcases open_ints Tryz.underlying30 Tryz.underlying5 (by kernel_rfl) hf with ⟨hcs,_⟩|⟨x,l,c,zs,hcs,_,hl,hm,hz,hx,hcell,hwz⟩
  ·simp [Value.cells] at hcs;obtain ⟨rfl,rfl,rfl⟩:=hcs;exact ⟨[],.inl ⟨rfl,rfl,rfl,rfl⟩,by omega⟩
  ·simp [Value.cells] at hcs;obtain ⟨rfl,rfl,rfl⟩:=hcs;simp only [Prod.mk.injEq] at hx;have hz':zs.length=c0:=by simpa using hz
   have hs:=sized_slice hsz (j:=0) (t:=30) rfl (congrArg some hx.1) Tryz.underlying30;rw [show Tryz.prog.bytesOf 5 = 1 from by kernel_rfl] at hs;simp only [lits,List.length_map,List.length_take,List.length_drop,reachBytes] at hs;exact ⟨zs,.inr ⟨_,rfl,hl,hm,hz',hcell,hwz⟩,by omega⟩
 clear hA0 hval0 hsz0;refine (walk a0 n0 c0 z0 W w0 r0).mono fun e W' ⟨he,bel⟩=>?_;subst he;exact ⟨_,rfl,_,_,_,[],_,[],hW',trodAll_mk1 (shut_bool Tryz.underlying4 _),(trodAll_cons_mk (Below.trod laidOut (by kernel_rfl) (of_decide_eq_true (by kernel_rfl)) k0 bel lt0) trodAll_mk0),rfl,bel.frame _,fun h=>by cases h⟩
theorem lifted(os:Os)(started:os.Started)(H:Type)(enc:TypeId×Value→H) :
  ReturnsInHanded {} Tryz.checked os 6 .any (Rows.sessionNoneSpec.pre6 enc Tryz.prog Tryz.f6 Rows.sessionNoneRow.domain false) (Rows.sessionNoneSpec.post enc Tryz.prog Tryz.f6 false true false false):=by
 refine returnsInHanded_of_change_sized (C:=Tryz.checked) own started (by kernel_rfl) Tryz.func6
  (ChangeSpec.witness6 (enc:=enc) (C:=Tryz.checked) false ⟨#[],#[.slice none 0 0],[]⟩ 8 (by kernel_rfl) (by kernel_rfl) (by kernel_rfl) (by kernel_rfl)) ?_
 intro W base args ds gs before hval hW _ hsz _;exact contract H enc W base args ds gs before hval hW hsz
theorem over:Rows.sessionNoneRow.holds Tryz.pinned (OpenSpec.ofChange Rows.sessionNoneSpec):=
 OpenClaim.holds_of_wide 6 Tryz.f6 rfl rfl rfl rfl rfl rfl rfl ⟨rfl,rfl,rfl,rfl,rfl⟩ rfl rfl rfl rfl rfl (by kernel_rfl) Tryz.func6 (by kernel_rfl)
  (of_decide_eq_true (by kernel_rfl)) (by unfold Func.isWrapper;first|(rw [if_pos (by decide +kernel)];kernel_rfl)|(rw [if_neg (by decide +kernel)];exact ⟨rfl,rfl⟩))
  (fun os started H enc _=>lifted os started H enc)
theorem proved:Rows.SessionNoneSaid:=over
#print axioms proved
end Go.Proofs.YtcgmgdjeamidlaaGreat.sessionNone
