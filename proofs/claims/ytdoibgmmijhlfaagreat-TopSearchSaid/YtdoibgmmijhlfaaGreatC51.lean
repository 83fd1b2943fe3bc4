/- TopSearch: the given statement holds for every input, on every schedule; no condition. The row's step over the law's walk, the run alone and the run in company. -/
import Derived.Test.YtdoibgmmijhlfaaGreatC43
import Derived.Test.YtdoibgmmijhlfaaGreatC50
import Derived.Conc.LeavingOf
import Derived.ShutString
import Derived.ChangeOld
namespace Go.Proofs.YtdoibgmmijhlfaaGreat.topSearch
open Go.ChangeShapes Go.WideShapes Go.ChangeAt Go.RowKit Go.Conc Go.Proofs.YtdoibgmmijhlfaaGreat.Sm
set_option linter.unusedVariables false
theorem own:ownKnob Tryz.prog.godebug=none:=by kernel_rfl
theorem laidOut:laidOutB Tryz.prog=true:=by kernel_rfl
theorem lawful:Lawful 5 Tryz.f5 10 where
 fc:=Crz.func5
 ft:=Tryz.func5
 res:=by kernel_rfl
 live:=by kernel_rfl
 ini:=by kernel_rfl
theorem goodR:GoodR LawR where
 out:=fun w h=>by
  rcases h with h | ⟨_,_,_,_,_,h,_⟩ | ⟨_,_,_,_,h,_⟩ | ⟨_,h,_⟩ <;> cases h
 says:=fun ch w h=>by
  rcases h with h | ⟨n,nw,f,O,c,h,k⟩ | ⟨n,nw,f,O,h,k⟩ | ⟨p,h,k⟩
  ·cases h
  ·exact .inl ⟨n,nw,f,O,c,Ending.panicked.inj h,k⟩
  ·exact .inr (.inl ⟨n,nw,f,O,Ending.panicked.inj h,k⟩)
  ·exact .inr (.inr ⟨p,Ending.panicked.inj h,k⟩)
theorem valued(w:World)(x:Value)(h:LawR (.returned x) w):x=.bool true:=by
 rcases h with h | ⟨_,_,_,_,_,h,_⟩ | ⟨_,_,_,_,h,_⟩ | ⟨_,h,_⟩
 ·exact Ending.returned.inj h
 all_goals cases h
set_option maxRecDepth 100000 in
theorem lifted(os:Os)(started:os.Started)(H:Type)(enc:TypeId×Value→H) :
  ReturnsInLeavingWide {} Tryz.checked os 5 .any (Rows.topSearchSpec.pre6 enc Tryz.prog Tryz.f5 Rows.topSearchRow.domain false) (Rows.topSearchSpec.post enc Tryz.prog Tryz.f5 false true false false):=by
 refine returnsInLeavingWide_of_change_sized (C:=Tryz.checked) own started Tryz.func5
  (ChangeSpec.witness6 (enc:=enc) (C:=Tryz.checked) false ⟨#[],#[.agg #[.string ⟨#[]⟩,.int .i64 0,.int .i64 0,.slice none 0 0,.slice none 0 0,.bool false,.bool false,.slice none 0 0,.int .i64 0,.int .i64 0,.int .i64 0],.agg #[.slice none 0 0,.slice none 0 0,.slice none 0 0,.int .i64 0,.int .i64 0],.int .i64 0,.int .i64 0,.int .i64 0],[]⟩ 8 (by kernel_rfl) (by kernel_rfl) (by kernel_rfl) (by kernel_rfl)) ?_
 intro W base args ds gs before hval0 hW hcnd _ _
 have hval:∀ (j:Nat) t v,Tryz.f5.params[j]? = some t→args[j]? = some v→Value.okWide Tryz.prog W .any base t v:=hval0
 have hW':=hW
 obtain⟨p,q,hA0,hV,rfl,hfz,hnd⟩:=hW
 have hA:DataW.TrodAll enc Tryz.prog W 0 (fun _=>true) true Tryz.f5.params.toList args.toList ds p:=hA0
 rw [Tryz.params5] at hA hval
 obtain⟨v0,vs0,d0,ds0,p0,q0,hargs,rfl,rfl,h0,r0⟩:=trodAll_cons hA
 obtain⟨v1,vs1,d1,ds1,p1,q1,rfl,rfl,rfl,h1,r1⟩:=trodAll_cons r0
 obtain⟨v2,vs2,d2,ds2,p2,q2,rfl,rfl,rfl,h2,r2⟩:=trodAll_cons r1
 obtain⟨v3,vs3,d3,ds3,p3,q3,rfl,rfl,rfl,h3,r3⟩:=trodAll_cons r2
 obtain⟨v4,vs4,d4,ds4,p4,q4,rfl,rfl,rfl,h4,r4⟩:=trodAll_cons r3
 obtain⟨rfl,rfl,rfl⟩:=trodAll_nil r4
 obtain rfl:args=#[v0,v1,v2,v3,v4]:=by cases args;simp_all
 obtain⟨rfl,rfl⟩:=trodVars_none hV
 have k0:=h0
 have lt0:∀ x∈p0,x.block<W.heap.size:=by obtain⟨m,hm⟩:=k0;exact DataW.trod_lt m _ _ _ hm
 obtain⟨m0,w0⟩:=Lo.rules_open (G:=cxM) (hval 0 26 v0 rfl rfl) h0
 have k1:=h1
 have lt1:∀ x∈p1,x.block<W.heap.size:=by obtain⟨m,hm⟩:=k1;exact DataW.trod_lt m _ _ _ hm
 obtain⟨m1,w1⟩:=Lo.pos_open (G:=cxM) (hval 1 29 v1 rfl rfl) h1
 obtain⟨a2,rfl,rfl,rfl,w2⟩:=open_int Tryz.underlying3 (hval 2 3 v2 rfl rfl) h2
 obtain⟨a3,rfl,rfl,rfl,w3⟩:=open_int Tryz.underlying3 (hval 3 3 v3 rfl rfl) h3
 obtain⟨a4,rfl,rfl,rfl,w4⟩:=open_int Tryz.underlying3 (hval 4 3 v4 rfl rfl) h4
 clear hA0 hval0
 have hxs:∀ F,RW (ren0 cxM W) F #[lonArg cxM W v0,lonArg cxM W v1,.int .i64 a2,.int .i64 a3,.int .i64 a4] #[v0,v1,.int .i64 a2,.int .i64 a3,.int .i64 a4]:=fun F=>((((RW.empty.push (lonArg_rel v0)).push (lonArg_rel v1)).push (.int .i64 a2)).push (.int .i64 a3)).push (.int .i64 a4)
 obtain⟨M,last,o,w',t',e1,e2,e3,e4⟩:=law_runs lawful goodR valued (by kernel_rfl) (by kernel_rfl) (W:=W) (glob_le W) hxs (fun t=>topSearch_law _ m0 _ m1 a2 a3 a4 ((lonW cxM W).taped t) w0 w1)
 refine⟨M,last,o,w',t',e1,e2,e3,e4.mono fun v hp=>?_⟩
 obtain⟨rfl,hg,hold⟩:=hp
 have bel:Below W.heap.size W w':=⟨hg.os,hg.tape,hg.output,hg.size,hold⟩
 exact⟨_,_,_,[],_,[],hW',trodAll_mk1 (shut_bool Tryz.underlying4 _),(trodAll_cons_mk (Below.trod laidOut (by kernel_rfl) (of_decide_eq_true (by kernel_rfl)) k0 bel lt0) (trodAll_cons_mk (Below.trod laidOut (by kernel_rfl) (of_decide_eq_true (by kernel_rfl)) k1 bel lt1) (trodAll_cons_mk (shut_int Tryz.underlying3 w2) (trodAll_cons_mk (shut_int Tryz.underlying3 w3) (trodAll_cons_mk (shut_int Tryz.underlying3 w4) trodAll_mk0))))),rfl,bel.frame _,fun h=>by cases h⟩
theorem over:Rows.topSearchRow.holds Tryz.pinned (OpenSpec.ofChange Rows.topSearchSpec) :=
 OpenClaim.holds_of_wide_leaving 5 Tryz.f5 rfl rfl rfl rfl rfl rfl rfl ⟨rfl,rfl,rfl,rfl,rfl⟩ rfl rfl rfl rfl rfl (by kernel_rfl) Tryz.func5 (by kernel_rfl)
  (of_decide_eq_true (by kernel_rfl)) (by unfold Func.isWrapper;first | (rw [if_pos (by decide +kernel)];kernel_rfl) | (rw [if_neg (by decide +kernel)];exact⟨rfl,rfl⟩))
  (fun os started H enc _=>lifted os started H enc)
theorem proved:Rows.TopSearchSaid:=over
end Go.Proofs.YtdoibgmmijhlfaaGreat.topSearch
