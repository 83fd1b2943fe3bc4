/- CyV CyK CyT CyP CyQ CyR CyD CyH CyI CyJ CyM CyN CyO CyX CyZ CyC CyA CyF CyY CzA -/
import Derived.Test.YtdoibgmmijhlfaaGreatC48
import Derived.Test.YtdoibgmmijhlfaaGreatC37
import Derived.Test.YtdoibgmmijhlfaaGreatC49
import Derived.Conc.CrowdStepC
namespace Go.Proofs.YtdoibgmmijhlfaaGreat.Sm
open Go Go.Conc Go.ConcN Go.ConcN.Gen Go.RowKit Go.Conc.Lib Go.ConcR.Gen
set_option linter.unusedVariables false
set_option linter.unusedSimpArgs false
structure DLd(O:Nat)(w w':World)(es:Array Event):Prop where
 world:w'=w
 evs:∀ e∈es,e=⟨.cell ⟨O,0,none⟩,false,true⟩
theorem dld_no(O:Nat)(w:World)(es:Array Event)(h:∀ e∈es,False):DLd O w w es:=⟨rfl,fun e he=>(h e he).elim⟩
theorem dld_none(O:Nat)(w:World):DLd O w w #[]:=dld_no O w #[] (by simp)
theorem xL_n : (Tryz.f72.name == "runtime.NumGoroutine") = false := by kernel_rfl
theorem xL_b:Tryz.f72.body.isNone=true:=by kernel_rfl
theorem xL_x:Extern.findNext Tryz.f72=none:=by kernel_rfl
theorem xL_f:Extern.find Tryz.f72=some (Extern.Atomic.loadT (.int .i64)):=by kernel_rfl
theorem cell_at{w:World}{a:Addr}{v:Value}(h:w.cell? a=some v)(d:Nat):(w.at d).cell? a=some v:=h
set_option maxRecDepth 100000 in
set_option maxHeartbeats 4000000 in
theorem loadWalk{cf:Frame}{cs:List Frame}{w0:World}{O:Nat}{v:Int}(hc:w0.cell? ⟨O,0,none⟩=some (.int .i64 v)):Goes Tryz.prog true AtW (DLd O) (fun g w=>g=gor (cf.finish (.int .i64 v)) cs∧∃ d,w=w0.at d) 40
  (G (Frame.enter Tryz.prog 41 #[.pointer (some ⟨O,0,none⟩)] .normal) (cf :: cs)) w0:=by
 rw [enter_at _ Tryz.func41 rfl]
 have hF:∃ d,w0=w0.at d:=⟨w0.drawn,rfl⟩
 simp only [Tryz.f41]
 walk_nrm
 refine Goes.step rfl (fun _ h₁=>?_)
 replace hF:=at_rely hF h₁
 clear h₁
 rw [stepG_seq]
 simp only [goes_go]
 refine⟨dld_none _ _,?_⟩
 refine Goes.step rfl (fun _ h₁=>?_)
 replace hF:=at_rely hF h₁
 clear h₁
 rw [stepG_region]
 simp only [goes_go,List.size_toArray,List.length_cons,List.length_nil,Nat.reduceAdd,Nat.zero_add,List.range,List.range.loop]
 refine⟨dld_none _ _,?_⟩
 refine Goes.step rfl (fun _ h₁=>?_)
 replace hF:=at_rely hF h₁
 clear h₁
 refine goes_oper_k rfl rfl (by decide) (fun K hK=>?_)
 go_simp
 refine hK _ _ ⟨?_,?_⟩
 ·refine dld_no _ _ _ (fun e he=>?_)
  have hm:=mem_listed he
  simp [go_sem, *] at hm
 clear hK K
 try walk_nrm
 refine Goes.step rfl (fun _ h₁=>?_)
 replace hF:=at_rely hF h₁
 clear h₁
 rw [stepG_region_end]
 simp only [goes_go]
 refine⟨dld_none _ _,?_⟩
 refine Goes.step rfl (fun _ h₁=>?_)
 replace hF:=at_rely hF h₁
 clear h₁
 rw [stepG_seq]
 simp only [goes_go]
 refine⟨dld_none _ _,?_⟩
 refine Goes.step rfl (fun _ h₁=>?_)
 replace hF:=at_rely hF h₁
 clear h₁
 rw [stepG_region]
 simp only [goes_go,List.size_toArray,List.length_cons,List.length_nil,Nat.reduceAdd,Nat.zero_add,List.range,List.range.loop]
 refine⟨dld_none _ _,?_⟩
 refine Goes.step rfl (fun _ h₁=>?_)
 replace hF:=at_rely hF h₁
 clear h₁
 refine goes_oper_k rfl rfl (by decide) (fun K hK=>?_)
 go_simp
 refine hK _ _ ⟨?_,?_⟩
 ·refine dld_no _ _ _ (fun e he=>?_)
  have hm:=mem_listed he
  simp [go_sem, *] at hm
 clear hK K
 try walk_nrm
 refine Goes.step rfl (fun _ h₁=>?_)
 replace hF:=at_rely hF h₁
 clear h₁
 refine goes_oper_k rfl rfl (by decide) (fun K hK=>?_)
 go_simp
 refine hK _ _ ⟨?_,?_⟩
 ·refine dld_no _ _ _ (fun e he=>?_)
  have hm:=mem_listed he
  simp [go_sem, *] at hm
 clear hK K
 try walk_nrm
 refine Goes.step rfl (fun _ h₁=>?_)
 replace hF:=at_rely hF h₁
 clear h₁
 refine goes_oper_k rfl rfl (by decide) (fun K hK=>?_)
 go_simp
 refine hK _ _ ⟨?_,?_⟩
 ·refine dld_no _ _ _ (fun e he=>?_)
  have hm:=mem_listed he
  simp [go_sem, *] at hm
 clear hK K
 try walk_nrm
 refine Goes.step rfl (fun _ h₁=>?_)
 replace hF:=at_rely hF h₁
 clear h₁
 obtain⟨d,rfl⟩:=hF
 have hc1:=cell_at hc d
 have hF:∃ d',w0.at d=w0.at d':=⟨d,rfl⟩
 rw [stepG_load_atomic rfl rfl (by decide) rfl Tryz.func72 xL_n xL_b xL_x .i64 xL_f rfl hc1]
 simp only [goes_go]
 refine⟨⟨rfl,by simp⟩,?_⟩
 clear hc1
 walk_nrm
 refine Goes.step rfl (fun _ h₁=>?_)
 replace hF:=at_rely hF h₁
 clear h₁
 refine goes_oper_k rfl rfl (by decide) (fun K hK=>?_)
 go_simp
 refine hK _ _ ⟨?_,?_⟩
 ·refine dld_no _ _ _ (fun e he=>?_)
  have hm:=mem_listed he
  simp [go_sem, *] at hm
 clear hK K
 try walk_nrm
 refine Goes.step rfl (fun _ h₁=>?_)
 replace hF:=at_rely hF h₁
 clear h₁
 rw [stepG_region_end]
 simp only [goes_go]
 refine⟨dld_none _ _,?_⟩
 refine Goes.step rfl (fun _ h₁=>?_)
 replace hF:=at_rely hF h₁
 clear h₁
 rw [stepG_ret']
 simp only [goes_go]
 refine⟨dld_none _ _,?_⟩
 refine Goes.step rfl (fun _ h₁=>?_)
 replace hF:=at_rely hF h₁
 clear h₁
 rw [stepG_leave (b:=base 41) rfl rfl Tryz.func41 (results_tmp rfl _ _ _) (events_results_tmp rfl _ _)]
 simp only [goes_go]
 refine⟨dld_none _ _,?_⟩
 exact Goes.stop fun w₁ h₁=>⟨rfl,at_rely hF h₁⟩
end Go.Proofs.YtdoibgmmijhlfaaGreat.Sm
namespace Go.Proofs.YtdoibgmmijhlfaaGreat.Sm
open Go Go.Conc Go.ConcN
set_option linter.unusedVariables false
structure GoodR(R:Ending→World→Prop):Prop where
 out:∀ w,¬ R .outgrown w
 says:∀ ch w,R (.panicked ch) w→(∃ n nw f O c,ch=[{ v:=markV n nw f,recovered:=false }]∧ScPre w n nw f O c)∨(∃ n nw f O,ch=[{ v:=markV n nw f,recovered:=false }]∧CtPre w n nw f O)∨∃ p,ch=[{ v:=markL p,recovered:=false }]∧LdPre w p
theorem arr1{α:Type}{xs:Array α}(h:xs.size=1):∃ x,xs=#[x]:=by
 obtain⟨l⟩:=xs
 match l,h with
 | [x],_=>exact⟨x,rfl⟩
theorem arr3{α:Type}{xs:Array α}(h:xs.size=3):∃ x y z,xs=#[x,y,z]:=by
 obtain⟨l⟩:=xs
 match l,h with
 | [x,y,z],_=>exact⟨x,y,z,rfl⟩
theorem blk_heap{w w':World}{B:Nat}{t:TypeId}{cs:Array Value}(h:Blk w B t cs)(e:w'.heap=w.heap):Blk w' B t cs:=by
 unfold Blk at h ⊢
 rw [e];exact h
section
variable {R:Ending→World→Prop}{w0:World}
theorem StRel.head{p p':Program}{G:Cx}{fb sb:FuncId→Bool}{dd:FuncId→Nat→Bool}{Sp:FuncId→Oper→Oper→Prop}{ρ:Ren G}{fr fr':Frame}{cs cs':List Frame}(h:StRel p p' fb sb dd Sp ρ (fr :: cs) (fr' :: cs')):FRel p p' fb dd Sp ρ fr fr':=by
 cases h with
 | base h=>exact h
 | cons h _ _ _=>exact h
theorem WRel.loneExt{G:Cx}{ρ:Ren G}{F:FuncId→Prop}{w v w':World}(h:WRel ρ F w w')(hs:w.heap.size≤v.heap.size)(hx:∀ b,b<w.heap.size→v.heap[b]? = w.heap[b]?):WRel ρ F v w':=by
 refine⟨fun b c hr=>?_,Nat.le_trans h.base hs⟩
 obtain⟨o,o',h1,h2,h3⟩:=h.objs b c hr
 exact⟨o,o',by rw [hx b (Array.getElem?_eq_some_iff.1 h1).1];exact h1,h2,h3⟩
theorem sj_load{ρ:Ren cxM}{hd:Nat→Bool}{N O:Nat}{wl w:World}(hN:0<N)(hO:hd O=false)(hlt:O<w.heap.size):Keeps N (DLd O) (fun w2 t=>SJ w0 N ρ hd wl w2 t∧w2.heap=w.heap):=by
 refine⟨fun w2 d t h=>⟨h.1.at d,h.2⟩,?_,fun w2 t u g hg h0 hu h=>⟨h.1.mute hg h0 hu,h.2⟩⟩
 rintro w2 w3 es t fn pos ⟨hJ,hh⟩ ⟨rfl,hev⟩
 refine⟨⟨?_,?_,hJ.vis,hJ.hdlt,hJ.grows,hJ.old,hJ.fz⟩,hh⟩
 ·refine hJ.ts.app hN (Nat.le_refl _) (fun op hop=>?_) (fun op hop b hb=>?_) (fun op hop=>?_) (fun op hop b ad hb hl=>?_)
  ·exact(mO hop).choose_spec.2.1
  ·obtain⟨e,he,_,h2⟩:=mO hop
   rw [hev e he] at h2
   rw [h2] at hb
   cases hb
   intro q
   rw [hO] at q;cases q
  ·obtain⟨e,he,_,h2⟩:=mO hop
   rw [hev e he] at h2
   rw [h2];intro ad q;cases q
  ·obtain⟨e,he,_,h2⟩:=mO hop
   rw [hev e he] at h2
   rw [h2] at hb
   cases hb
   cases hl
   rw [hh];exact hlt
 ·rw [Deaf_own,hJ.deaf]
  exact deafBehind_idle (fun e he=>by rw [hev e he];exact⟨by simp,by simp⟩) 0
theorem load_leads(hR:GoodR R){s0:LS}{m:Machine}{t:Trace}(h:AtCall R w0 41 1 s0 m t):Leads Tryz.prog m t fun m t=>∃ s l,Nx' Crz.prog s s0∧Solo R w0 s l m t:=by
 obtain⟨gs,w,sl,ρ,l,hd,c,cs,c',cs',xs,ys,wl,rfl,h0,hL,hLW,hn,hS,hW,hxs,hrow,hJ⟩:=h
 obtain⟨x,rfl⟩:=arr1 hxs
 obtain⟨y,rfl⟩:=arr1 (hrow.size ▸ hxs)
 have hxy:VRel ρ F2 x y:=hrow.at_ 0 x y rfl rfl
 obtain⟨t0,d0,r⟩:=load_panics hR.out hLW
 rcases hR.says _ _ r with ⟨n,nw,f,O,c,e,_⟩ | ⟨n,nw,f,O,e,_⟩ | ⟨p,e,hp⟩
 ·simp [markV] at e
 ·simp [markV] at e
 ·have hpx:x=p:=by simpa [markL] using e
  subst hpx
  obtain⟨O,v,rfl,hB⟩:=hp
  have hB1:Blk wl O 81 #[.int .i64 v]:=blk_heap hB rfl
  cases hxy with
  | @ptr _ b' ha =>
   obtain⟨O',off',spot'⟩:=b'
   obtain⟨k1,k2,k3⟩:=ha
   simp only at k1 k2 k3
   subst k2;subst k3
   rw [load_enter] at hLW
   obtain⟨a,g1,n1⟩:=hLW.ask false
   change LWc R ⟨fr0 41 #[.pointer (some ⟨O,0,none⟩),undef,undef,.bool false,undef,undef,undef,undef,undef,undef,undef,undef] [.code restL] .run,c :: cs,{ wl with tape:=fun _ _=>a,drawn:=wl.drawn+1 }⟩ at g1
   change Nx' Crz.prog ⟨fr0 41 #[.pointer (some ⟨O,0,none⟩),undef,undef,.bool false,undef,undef,undef,undef,undef,undef,undef,undef] [.code restL] .run,c :: cs,{ wl with tape:=fun _ _=>a,drawn:=wl.drawn+1 }⟩ _ at n1
   obtain⟨rv,w',⟨hrv,hx⟩,g2,n2⟩:=LW.rest Crz.func41 (fun e w q=>⟨_,q.1⟩) (loadRest O v { wl with tape:=fun _ _=>a,drawn:=wl.drawn+1 } (blk_heap hB1 rfl)) g1
   cases hrv
   have hc:w.cell? ⟨O',0,none⟩=some (.int .i64 v):=by
    obtain⟨o,o',q1,q2,q3⟩:=hW.objs O O' k1
    unfold Blk at hB1
    rw [hB1] at q1
    cases q1
    cases q3 with
    | row hx =>
     rcases hx with hx | ⟨hx,_⟩
     ·simp at hx
     ·obtain⟨u,hu,hv⟩:=hx.get (i:=0) rfl
      cases hv
      simp [World.cell?,q2,hu]
   have hlt:O'<w.heap.size:=hW.lt k1
   have hN:0<gs.size:=(Array.getElem?_eq_some_iff.1 h0).1
   refine(alone_goes (sj_load (w0:=w0) (ρ:=ρ) hN (hJ.vis _ _ k1) hlt) (fun g w q=>by rw [q.1];rfl) h0 hL rfl (loadWalk (cf:=c') (cs:=cs') hc) ⟨hJ,rfl⟩).then ?_
   rintro m t ⟨gs',w2,sl',a',l',rfl,e0,eL,eN,⟨rfl,d,rfl⟩,eJ,eh⟩
   refine .here ⟨⟨c.finish (.int .i64 v),cs,w'⟩,l',?_,gs',w.at d,sl',ρ,_,_,hd,rfl,e0,eL,⟨?_,?_,g2.good,g2.will⟩,?_⟩
   ·rw [load_enter] at hn
    exact Relation.TransGen.trans (.single n2) (n1.trans hn)
   ·exact hS.top (Ren.le_refl _) (hS.head.finish (.int _ _)) (finish_fn _ _)
   ·exact(hW.at d).loneExt hx.size fun b hb=>hx.block b hb
   ·rw [eN]
    refine eJ.lone fun b e xs ty z hr hb=>?_
    have hlb:b<wl.heap.size:=by obtain⟨o,_,q,_⟩:=hW.objs b e hr;exact(Array.getElem?_eq_some_iff.1 q).1
    exact⟨xs,ty,(hx.block b hlb).symm.trans hb,rfl⟩
end
abbrev CoW(Rw:Ending→World→Prop)(ρ:Ren cx)(s:LS)(fr':Frame)(cs':List Frame)(w:World):Prop:=Co Crz.prog Tryz.prog cx cx0 fam famM famM deadA SpA Rw ρ s fr' cs' w
def kf(out:Bool):FuncId:=if out then 42 else 38
noncomputable def scO:Array Oper:=scOps.modify 16 mute
noncomputable def ctO:Array Oper:=ctOps.modify 1 mute
noncomputable def ct0:Array Oper:=opsOf ctFst
theorem ctFst_eq:ctFst=.region 0 ct0 true:=by kernel_rfl
theorem ct_size:ctO.size=2∧ctOps.size=2:=⟨by kernel_rfl,by kernel_rfl⟩
theorem sc_size:scO.size=17:=by kernel_rfl
theorem sc_w1:waitsAll .any scO 16=true:=by kernel_rfl
theorem sc_w2:waitsAll .text scO 16=true:=by kernel_rfl
theorem sc_w3:waitsAll .gc scO 16=true:=by kernel_rfl
theorem sc_w4:waitsBelow scO=true:=by kernel_rfl
inductive Bt:Bool→List Item→List Item→Prop where
 | s0:Bt true [.code (.region 0 scO true)] [.code (.region 0 scOps true)]
 | s1 {a:Nat} {pre r:List Nat} (h:Region.schedule (Crz.prog.follows .mixedOrders) scO a=pre++r) (hm:16∈r):Bt true [.inRegion scO r] [.inRegion scOps r]
 | c0:Bt false [.code (.seq ctFst (.region 1 ctO false))] [.code (.seq ctFst (.region 1 ctOps false))]
 | c1:Bt false [.code (.region 0 ct0 true),.code (.region 1 ctO false)] [.code (.region 0 ct0 true),.code (.region 1 ctOps false)]
 | c2 (r:List Nat):Bt false [.inRegion ct0 r,.code (.region 1 ctO false)] [.inRegion ct0 r,.code (.region 1 ctOps false)]
 | c3:Bt false [.code (.region 1 ctO false)] [.code (.region 1 ctOps false)]
 | c4:Bt false [.inRegion ctO [0,1]] [.inRegion ctOps [0,1]]
 | c5:Bt false [.inRegion ctO [1]] [.inRegion ctOps [1]]
structure Bs(out:Bool)(b b':Frame):Prop where
 fn:b.fn=kf out
 run:b.mode=.run
 run':b'.mode=.run
 todo:Bt out b.todo b'.todo
def lastF:Frame→List Frame→Frame
 | fr,[]=>fr
 | _,c :: cs=>lastF c cs
theorem sp_store:SpW 42 (mute scOp) scOp:=.store (by kernel_rfl) (by kernel_rfl) (by kernel_rfl)
theorem sp_add:SpW 38 (mute ctOp) ctOp:=.add (by kernel_rfl) (by kernel_rfl) (by kernel_rfl)
theorem scO_16:scO[16]? = some (mute scOp):=by
 unfold scO
 rw [Array.getElem?_modify,if_pos rfl,sc_op];rfl
theorem scO_ne{j:Nat}(h:j≠16):scO[j]? = scOps[j]?:=by
 unfold scO
 rw [Array.getElem?_modify,if_neg (Ne.symm h)]
theorem ctO_1:ctO[1]? = some (mute ctOp):=by
 unfold ctO
 rw [Array.getElem?_modify,if_pos rfl,ct_op];rfl
theorem ctO_ne{j:Nat}(h:j≠1):ctO[j]? = ctOps[j]?:=by
 unfold ctO
 rw [Array.getElem?_modify,if_neg (Ne.symm h)]
theorem guard_sc:(mute scOp).guard=none:=by kernel_rfl
theorem guard_ct:(mute ctOp).guard=none:=by kernel_rfl
theorem guard_sc':scOp.guard=none:=by kernel_rfl
theorem guard_ct':ctOp.guard=none:=by kernel_rfl
section
variable {ρ σ:Ren cx}{Rw:Ending→World→Prop}{out:Bool}
theorem famM_kf:famM (kf out)=false:=by
 cases h:famM (kf out) with
 | false=>rfl
 | true =>
  have:=famM_not h
  cases out
  ·exact absurd rfl this.2.2.1
  ·exact absurd rfl this.2.1
theorem spw_at{f:FuncId}{ts ts':Array Value}{ops ops':Array Oper}{i:Nat}{r:List Nat}{k k':List Item}{o o':Oper}(hB:Bs out (fr0 f ts (.inRegion ops (i :: r) :: k) .run) (fr0 f ts' (.inRegion ops' (i :: r) :: k') .run))(ho:ops[i]? = some o)(ho':ops'[i]? = some o')(hs:SpW f o o') :
  (out=true∧ops=scO∧ops'=scOps∧i=16∧r=[]∧k=[]∧k'=[])∨(out=false∧ops=ctO∧ops'=ctOps∧i=1∧r=[]∧k=[]∧k'=[]):=by
 have hne:o.op≠o'.op:=by
  cases hs with
  | store h h' _=>rw [h,h'];intro q;cases q
  | add h h' _=>rw [h,h'];intro q;cases q
 have ht:=hB.todo
 generalize hT:(fr0 f ts (.inRegion ops (i :: r) :: k) .run).todo=T at ht
 generalize hT':(fr0 f ts' (.inRegion ops' (i :: r) :: k') .run).todo=T' at ht
 cases ht with
 | s0=>cases hT
 | @s1 a pre r0 h hm =>
  cases hT
  cases hT'
  have h16:i=16:=Classical.byContradiction fun hc=>by
   rw [scO_ne hc,ho'] at ho
   cases ho
   exact hne rfl
  subst h16
  exact .inl ⟨rfl,rfl,rfl,rfl,last_only sc_w1 sc_w2 sc_w3 (by rw [sc_size];decide) h,rfl,rfl⟩
 | c0=>cases hT
 | c1=>cases hT
 | c2 r0 =>
  cases hT
  cases hT'
  rw [ho'] at ho
  cases ho
  exact absurd rfl hne
 | c3=>cases hT
 | c4 =>
  cases hT
  cases hT'
  rw [ctO_ne (by decide),ho'] at ho
  cases ho
  exact absurd rfl hne
 | c5 =>
  cases hT
  cases hT'
  exact .inr ⟨rfl,rfl,rfl,rfl,rfl,rfl,rfl⟩
theorem go_eq{g g2:Goroutine}{w w1 w2:World}{es es2:Array Event}{x:GStep}(h:x=.go g w1 es)(k:x=.go g2 w2 es2):g=g2:=by
 rw [h] at k
 exact(GStep.go.inj k).1
theorem base_next{f:FuncId}{ts ts':Array Value}{k k':List Item}{fr1 fr1':Frame}{w w1 w' u':World}{es fs:Array Event}{m0 m0':Bool}{cs cs':List Frame}(hB:Bs out (fr0 f ts k .run) (fr0 f ts' k' .run))(hsp:¬ AtSp SpA (fr0 f ts k .run) (fr0 f ts' k' .run))
  (e:stepG Crz.prog m0 (gor (fr0 f ts k .run) cs) w=.go (gor fr1 cs) w1 es) (e':stepG Tryz.prog m0' (gor (fr0 f ts' k' .run) cs') w'=.go (gor fr1' cs') u' fs) (hF:FRel Crz.prog Tryz.prog famM deadA SpA σ fr1 fr1')
  (h1:Own (fr0 f ts k .run) fr1) (h2:Own (fr0 f ts' k' .run) fr1') (hp:∀ ch,fr1.mode≠.panicking ch) (hf:fr1.fn=f):Bs out fr1 fr1':=by
 have hp':∀ ch,fr1'.mode≠.panicking ch:=fun ch q=>by
  cases hF with
  | mk f ht hk hm =>
   replace q:_=FrameMode.panicking ch:=q
   subst q
   cases hm with
   | panicking hv=>exact hp _ rfl
 have hfn:fr1.fn=kf out:=hf.trans hB.fn
 have ht:=hB.todo
 have own:∀ {ops i r kk},k=.inRegion ops (i :: r) :: kk→fr1.todo=.inRegion ops r :: kk∧fr1.mode=.run:=fun q=>(h1.2 _ _ _ _ q).resolve_right fun ⟨ch,hc⟩=>hp ch hc
 have own':∀ {ops i r kk},k'=.inRegion ops (i :: r) :: kk→fr1'.todo=.inRegion ops r :: kk∧fr1'.mode=.run:=fun q=>(h2.2 _ _ _ _ q).resolve_right fun ⟨ch,hc⟩=>hp' ch hc
 replace ht:Bt out k k':=ht
 cases ht with
 | s0 =>
  obtain⟨rfl,_⟩:=gor_inj (go_eq (w:=w) e (c_draw Crz.prog m0 f ts [] cs w 0 scO))
  obtain⟨rfl,_⟩:=gor_inj (go_eq (w:=w) e' (c_draw Tryz.prog m0' f ts' [] cs' w' 0 scOps))
  refine⟨hfn,rfl,rfl,?_⟩
  cases hF with
  | mk f ht hk hm =>
   cases hk with
   | cons hi hr =>
    generalize hs:Region.schedule (Crz.prog.follows .mixedOrders) scO _=r at *
    generalize Region.schedule (Tryz.prog.follows .mixedOrders) scOps _=r' at *
    cases hi
    exact .s1 (pre:=[]) (by rw [hs];rfl) (by rw [← hs];exact mem_schedule _ sc_w4 (by rw [sc_size];decide))
 | @s1 a pre r h hm =>
  cases r with
  | nil=>cases hm
  | cons i r =>
   obtain⟨k1,k2⟩:=own rfl
   obtain⟨k3,k4⟩:=own' rfl
   refine⟨hfn,k2,k4,?_⟩
   rw [k1,k3]
   refine .s1 (a:=a) (pre:=pre++[i]) (by rw [h];simp) ?_
   rcases List.mem_cons.1 hm with rfl | hm
   ·have hfk:f=42:=hB.fn
    refine absurd ⟨rfl,scO,scOps,16,r,[],[],_,_,rfl,rfl,scO_16,sc_op,?_,.inr ?_⟩ hsp
    ·unfold Region.wanted;rw [guard_sc]
    ·show SpW f _ _;rw [hfk];exact sp_store
   ·exact hm
 | c0 =>
  obtain⟨rfl,_⟩:=gor_inj (go_eq (w:=w) e (c_seq Crz.prog m0 f ts [] cs w _ _))
  obtain⟨rfl,_⟩:=gor_inj (go_eq (w:=w) e' (c_seq Tryz.prog m0' f ts' [] cs' w' _ _))
  refine⟨hfn,rfl,rfl,?_⟩
  show Bt false [.code ctFst,_] [.code ctFst,_]
  rw [ctFst_eq]
  exact .c1
 | c1 =>
  obtain⟨rfl,_⟩:=gor_inj (go_eq (w:=w) e (c_draw Crz.prog m0 f ts _ cs w 0 ct0))
  obtain⟨rfl,_⟩:=gor_inj (go_eq (w:=w) e' (c_draw Tryz.prog m0' f ts' _ cs' w' 0 ct0))
  refine⟨hfn,rfl,rfl,?_⟩
  cases hF with
  | mk f ht hk hm =>
   cases hk with
   | cons hi hr =>
    generalize Region.schedule (Crz.prog.follows .mixedOrders) ct0 _=r at *
    generalize Region.schedule (Tryz.prog.follows .mixedOrders) ct0 _=r' at *
    cases hi
    exact .c2 _
 | c2 r =>
  cases r with
  | nil =>
   obtain⟨rfl,_⟩:=gor_inj (go_eq (w:=w) e (c_regionEnd Crz.prog m0 f ts _ cs w ct0))
   obtain⟨rfl,_⟩:=gor_inj (go_eq (w:=w) e' (c_regionEnd Tryz.prog m0' f ts' _ cs' w' ct0))
   exact⟨hfn,rfl,rfl,.c3⟩
  | cons i r =>
   obtain⟨k1,k2⟩:=own rfl
   obtain⟨k3,k4⟩:=own' rfl
   refine⟨hfn,k2,k4,?_⟩
   rw [k1,k3]
   exact .c2 r
 | c3 =>
  obtain⟨rfl,_⟩:=gor_inj (go_eq (w:=w) e (c_region Crz.prog m0 f ts _ cs w 1 ctO))
  obtain⟨rfl,_⟩:=gor_inj (go_eq (w:=w) e' (c_region Tryz.prog m0' f ts' _ cs' w' 1 ctOps))
  refine⟨hfn,rfl,rfl,?_⟩
  show Bt false [.inRegion ctO (List.range ctO.size)] [.inRegion ctOps (List.range ctOps.size)]
  rw [ct_size.1,ct_size.2]
  exact .c4
 | c4 =>
  obtain⟨k1,k2⟩:=own rfl
  obtain⟨k3,k4⟩:=own' rfl
  refine⟨hfn,k2,k4,?_⟩
  rw [k1,k3]
  exact .c5
 | c5 =>
  have hfk:f=38:=hB.fn
  refine absurd ⟨rfl,ctO,ctOps,1,[],[],[],_,_,rfl,rfl,ctO_1,ct_op,?_,.inr ?_⟩ hsp
  ·unfold Region.wanted;rw [guard_ct]
  ·show SpW f _ _;rw [hfk];exact sp_add
noncomputable def oO(out:Bool):Array Oper:=if out then scO else ctO
noncomputable def oC(out:Bool):Array Oper:=if out then scOps else ctOps
def ix(out:Bool):Nat:=if out then 16 else 1
def Nsp(out:Bool)(b:Frame):Prop:=∀ r k,b.todo≠.inRegion (oO out) (ix out :: r) :: k
theorem ct0_ne:ct0≠ctO:=fun e=>by
 have h:ct0.size=ctO.size:=by rw [e]
 rw [ct_size.1] at h
 have:(ct0.size == 2)=false:=by kernel_rfl
 rw [h] at this
 cases this
structure Bq(out:Bool)(s:LS)(fr':Frame)(cs':List Frame):Prop where
 bs:Bs out (lastF s.fr s.cs) (lastF fr' cs')
 ns:s.cs≠[]→Nsp out (lastF s.fr s.cs)
theorem nsp_of{fr fr':Frame}(hB:Bs out fr fr')(hsp:¬ AtSp SpA fr fr'):Nsp out fr:=by
 intro r k e
 have ht:=hB.todo
 have hm:=hB.run
 generalize hT:fr.todo=T at ht
 generalize hT':fr'.todo=T' at ht
 rw [hT] at e
 cases ht with
 | s0=>cases e
 | @s1 a pre r0 h hm16 =>
  have e':Item.inRegion scO r0 :: []=.inRegion scO (16 :: r) :: k:=e
  injection e' with e1 e2
  injection e1 with _ e3
  subst e3;subst e2
  refine hsp ⟨hm,scO,scOps,16,r,[],[],_,_,hT,hT',scO_16,sc_op,?_,.inr ?_⟩
  ·unfold Region.wanted;rw [guard_sc]
  ·rw [hB.fn];exact sp_store
 | c0=>cases e
 | c1=>cases e
 | c2 r0 =>
  have e':Item.inRegion ct0 r0 :: _=.inRegion ctO (1 :: r) :: k:=e
  injection e' with e1 e2
  injection e1 with e3 _
  exact ct0_ne e3
 | c3=>cases e
 | c4 =>
  have e':Item.inRegion ctO [0,1] :: []=.inRegion ctO (1 :: r) :: k:=e
  injection e' with e1 e2
  injection e1 with _ e3
  cases e3
 | c5 =>
  have e':Item.inRegion ctO [1] :: []=.inRegion ctO (1 :: r) :: k:=e
  injection e' with e1 e2
  injection e1 with _ e3
  injection e3 with _ e4
  subst e4;subst e2
  refine hsp ⟨hm,ctO,ctOps,1,[],[],[],_,_,hT,hT',ctO_1,ct_op,?_,.inr ?_⟩
  ·unfold Region.wanted;rw [guard_ct]
  ·rw [hB.fn];exact sp_add
theorem finish_todo(fr:Frame)(v:Value):(fr.finish v).todo=((fr0 0 #[] fr.todo .run).finish v).todo:=by
 unfold Frame.finish fr0
 simp only []
 split <;> simp_all
theorem bs_finish{c c':Frame}(hB:Bs out c c')(hn:Nsp out c)(v v':Value):Bs out (c.finish v) (c'.finish v'):=by
 refine⟨by rw [finish_fn];exact hB.fn,by rw [finish_mode];exact hB.run,by rw [finish_mode];exact hB.run',?_⟩
 rw [finish_todo c,finish_todo c']
 have ht:=hB.todo
 generalize hT:c.todo=T at ht
 generalize hT':c'.todo=T' at ht
 cases ht with
 | s0=>exact .s0
 | @s1 a pre r0 h hm16 =>
  cases r0 with
  | nil=>cases hm16
  | cons i r0 =>
   refine .s1 (a:=a) (pre:=pre++[i]) (by rw [h];simp) ?_
   rcases List.mem_cons.1 hm16 with rfl | hm
   ·exact absurd hT (hn _ _)
   ·exact hm
 | c0=>exact .c0
 | c1=>exact .c1
 | c2 r0 =>
  cases r0 with
  | nil=>exact .c2 []
  | cons i r0=>exact .c2 r0
 | c3=>exact .c3
 | c4=>exact .c5
 | c5=>exact absurd hT (hn _ _)
theorem StRel.forms{p p':Program}{G:Cx}{fb sb:FuncId→Bool}{dd:FuncId→Nat→Bool}{Sp:FuncId→Oper→Oper→Prop}{ρ:Ren G}{fr fr':Frame}{cs cs':List Frame}(hS:StRel p p' fb sb dd Sp ρ (fr :: cs) (fr' :: cs'))(hsp:AtSp Sp fr fr') :
  ∃ f ts ts' ops ops' i r k k' o o',fr=fr0 f ts (.inRegion ops (i :: r) :: k) .run∧fr'=fr0 f ts' (.inRegion ops' (i :: r) :: k') .run∧TmpRel ρ (inF fb) (dd f) ts ts'∧OpsRel p p' G.mark fb (dd f) (Sp f) ops ops' ∧
   TRel p p' G.mark fb (dd f) (Sp f) k k'∧ops[i]? = some o∧ops'[i]? = some o'∧Region.wanted o (yielded ops ts)=true∧Region.wanted o' (yielded ops' ts')=true∧Sp f o o':=by
 obtain⟨hm,ops,ops',i,r,k,k',o,o',e1,e2,ho,ho',hw,hs⟩:=hsp
 have hF:=hS.head
 cases hF with
 | @mk f ts ts' ht kk kk' hk m m' hmm =>
  replace e1:kk=_:=e1
  replace e2:kk'=_:=e2
  replace hm:m=_:=hm
  subst e1;subst e2;subst hm
  cases hmm
  cases hk with
  | cons hi hr =>
   cases hi with
   | inRegion hO r =>
    have hor:=hO.at_ i o o' ho ho'
    exact⟨f,ts,ts',ops,ops',i,r,k,k',o,o',rfl,rfl,ht,hO,hr,ho,ho',hw,by rw [wanted_same hO ht ho hor];exact hw,hs⟩
theorem work_step(hRw:∀ e w,Rw e w→∃ v,e=.returned v){s:LS}{fr':Frame}{cs':List Frame}{w:World}(h:CoW Rw ρ s fr' cs' w)(hB:Bq out s fr' cs') :
  (∃ (σ:Ren cx) (s1:LS) (fr1':Frame) (cs1':List Frame) (u':World) (fs:Array Event) (w1:World),(∀ main rest,stepG Tryz.prog main (gor fr' (cs'++rest)) w=.go (gor fr1' (cs1'++rest)) u' fs)∧CoW Rw σ s1 fr1' cs1' u'∧Nx' Crz.prog s1 s∧Bq out s1 fr1' cs1' ∧
   ((σ=ρ∧u'=w∧fs=#[]∧s1.w=s.w)∨(After (inF famM) ρ σ w1 w s1.w u' fs∧w1.heap=s.w.heap))) ∨
  ∃ ts ts',s.fr=fr0 (kf out) ts [.inRegion (oO out) [ix out]] .run∧s.cs=[]∧fr'=fr0 (kf out) ts' [.inRegion (oC out) [ix out]] .run∧cs'=[]∧TmpRel ρ (inF famM) (deadA (kf out)) ts ts':=by
 have hRo:∀ w,¬ Rw .outgrown w:=fun w r=>by obtain⟨v,q⟩:=hRw _ _ r;cases q
 have noP:∀ {s1:LS} {ch:List PanicEntry},LWc Rw s1→s1.fr.mode≠.panicking ch:=fun {s1 ch} hl hm=>by
  obtain⟨t,r⟩:=LW.panics pL hRo s1.cs s1.fr s1.w ch hl hm
  obtain⟨v,q⟩:=hRw _ _ r
  cases q
 obtain⟨fr,cs,wl⟩:=s
 have hLW:LWc Rw ⟨fr,cs,wl⟩:=⟨h.good,h.will⟩
 have hb:fr.mode=.run∨cs≠[]:=by
  by_cases hc:cs=[]
  ·subst hc;exact .inl hB.bs.run
  ·exact .inr hc
 by_cases hsp:AtSp SpA fr fr'
 ·obtain⟨f,ts,ts',ops,ops',i,r,k,k',o,o',rfl,rfl,ht,hO,hr,ho,ho',hw,hw',hs⟩:=h.st.forms hsp
  rcases hs with hs | hs
  ·cases hs with
   | @mk _ g t a b e _ _ c h1 h2 hd =>
    left
    obtain⟨d1,_,_⟩:=c.dead
    have hcs:cs≠[]:=fun hc=>by
     subst hc
     have:=hB.bs.fn
     rcases c with ⟨rfl,_⟩ | ⟨rfl,_⟩ <;> cases out <;> cases this
    have hcs':∃ c' d',cs'=c' :: d':=by
     have hst:=h.st
     cases hst with
     | base _=>exact absurd rfl hcs
     | cons _ _ _ _=>exact⟨_,_,rfl⟩
    obtain⟨c0,d0,rfl⟩:∃ c0 d0,cs=c0 :: d0:=by cases cs with | nil=>exact absurd rfl hcs | cons a b=>exact⟨a,b,rfl⟩
    obtain⟨c1,d1',rfl⟩:=hcs'
    obtain⟨hl,hn⟩:=hLW.go pL (t:=wl.tape) (s1:=⟨(fr0 f ts (.inRegion ops (i :: r) :: k) .run).finish (.func (.func g) #[] ((#[.tmp 4,.tmp 5,.tmp 11,.tmp 6,.tmp 12]:Array Operand).map (fr0 f ts (.inRegion ops (i :: r) :: k) .run).eval)),c0 :: d0,wl⟩) fun m0 rest=>(c_oper Crz.prog m0 f ts k (c0 :: d0++rest) wl ops i r o ho hw).trans (c_value Crz.prog f ts k (c0 :: d0++rest) wl ops i r _ _ wl #[] (run_mk h1))
    refine⟨ρ,⟨(fr0 f ts (.inRegion ops (i :: r) :: k) .run).finish (.func (.func g) #[] ((#[.tmp 4,.tmp 5,.tmp 11,.tmp 6,.tmp 12]:Array Operand).map (fr0 f ts (.inRegion ops (i :: r) :: k) .run).eval)),c0 :: d0,wl⟩,_,c1 :: d1',w,#[],w,fun main rest=>(c_oper Tryz.prog main f ts' k' (c1 :: d1'++rest) w ops' i r o' ho' hw').trans (c_value Tryz.prog f ts' k' (c1 :: d1'++rest) w ops' i r _ _ w #[] (run_mk (h2.trans h1))),⟨?_,h.wr,hl.good,hl.will⟩,.single hn,⟨hB.bs,fun _=>hB.ns hcs⟩,.inl ⟨rfl,rfl,rfl,rfl⟩⟩
    refine h.st.top (Ren.le_refl _) (FRel.finish2 ht hO hr .run ho fun d hd'=>?_) (finish_fn _ _)
    rw [hd] at hd';cases hd'
    refine⟨fun q=>?_,fun q=>by cases q⟩
    unfold deadA at q
    rw [d1] at q;cases q
   | @each _ g t a b e _ _ c h1 h2 hd =>
    exfalso
    obtain⟨hl,hn⟩:=hLW.go pL (t:=wl.tape) (s1:=⟨Frame.enter Crz.prog 37 _ .normal,fr0 f ts (.inRegion ops (i :: r) :: k) .run :: cs,wl⟩) fun m0 rest=>(c_oper Crz.prog m0 f ts k (cs++rest) wl ops i r o ho hw).trans (c_enter Crz.prog f ts k (cs++rest) wl ops i r _ _ _ wl #[] (run_enter h1 rfl Crz.func37 nmE1 rfl))
    obtain⟨x,y,z,hxyz⟩:∃ x y z,(#[.tmp a,.tmp b,.tmp t]:Array Operand).map (fr0 f ts (.inRegion ops (i :: r) :: k) .run).eval=#[x,y,z]:=arr3 (by simp)
    rw [hxyz] at hl
    obtain⟨t',d',r'⟩:=each_panics hRo hl
    obtain⟨v,q⟩:=hRw _ _ r'
    cases q
   | ld h1 h2 hd =>
    exfalso
    obtain⟨hl,hn⟩:=hLW.go pL (t:=wl.tape) (s1:=⟨Frame.enter Crz.prog 41 _ .normal,fr0 _ ts (.inRegion ops (i :: r) :: k) .run :: cs,wl⟩) fun m0 rest=>(c_oper Crz.prog m0 _ ts k (cs++rest) wl ops i r o ho hw).trans (c_enter Crz.prog _ ts k (cs++rest) wl ops i r _ _ _ wl #[] (run_enter h1 rfl Crz.func41 nmL1 rfl))
    obtain⟨x,hx⟩:∃ x,(#[.tmp 12]:Array Operand).map (fr0 12 ts (.inRegion ops (i :: r) :: k) .run).eval=#[x]:=arr1 (by simp)
    rw [hx] at hl
    obtain⟨t',d',r'⟩:=load_panics hRo hl
    obtain⟨v,q⟩:=hRw _ _ r'
    cases q
  ·right
   have hfm:famM f=false:=by
    cases hs with
    | store _ _ _=>exact famM_kf (out:=true)
    | add _ _ _=>exact famM_kf (out:=false)
   have hst:=h.st
   cases hst with
   | cons _ hs' _ _=>replace hs':famM f=true:=hs';rw [hfm] at hs';cases hs'
   | base hF =>
    have hfn:f=kf out:=hB.bs.fn
    subst hfn
    rcases spw_at hB.bs ho ho' hs with ⟨rfl,rfl,rfl,rfl,rfl,rfl,rfl⟩ | ⟨rfl,rfl,rfl,rfl,rfl,rfl,rfl⟩
    ·exact⟨ts,ts',rfl,rfl,rfl,rfl,ht⟩
    ·exact⟨ts,ts',rfl,rfl,rfl,rfl,ht⟩
 ·left
  obtain⟨σ,s1,fr1',cs1',u',fs,h1,hA,hBh,hg,hwl,hn,hsh,es,hes⟩:=co_step pL pair_work h hb hsp
  have hS1:StRel Crz.prog Tryz.prog famM famM deadA SpA σ (s1.fr :: s1.cs) (fr1' :: cs1'):=by
   rcases hBh with hBh | ⟨f,xs,ys,k1,k2,_⟩
   ·exact hBh
   ·rw [k1] at k2;cases k2
  refine⟨σ,s1,fr1',cs1',u',fs,_,h1,Co.next hA hS1 hg hwl,.single hn,?_,.inr ⟨hA,rfl⟩⟩
  have hl1:LWc Rw s1:=⟨hg,hwl⟩
  obtain⟨f1,c1,w1⟩:=s1
  rcases hsh with ⟨e1,e2,o1,o2⟩ | ⟨e1,e2⟩ | ⟨c,c',e1,e2,hp⟩
  ·replace e1:c1=cs:=e1
   subst e1;subst e2
   cases c1 with
   | cons a b =>
    cases cs1' with
    | nil=>have hst:=h.st;cases hst
    | cons a' b'=>exact⟨hB.bs,fun _=>hB.ns (by simp)⟩
   | nil =>
    cases cs1' with
    | cons a' b'=>have hst:=h.st;cases hst
    | nil =>
     refine⟨?_,fun q=>absurd rfl q⟩
     have hF0:=h.st.head
     cases hF0 with
     | @mk f ts ts' ht kk kk' hk m m' hmm =>
      have hm:m=.run:=hB.bs.run
      subst hm
      cases hmm
      exact base_next hB.bs hsp (hes true []) (h1 true []) hS1.head o1 o2 (fun ch=>noP hl1) o1.1
  ·replace e1:c1=fr :: cs:=e1
   subst e1;subst e2
   refine⟨hB.bs,fun _=>?_⟩
   by_cases hc:cs=[]
   ·subst hc
    cases cs' with
    | cons a' b'=>have hst:=h.st;cases hst
    | nil=>exact nsp_of hB.bs hsp
   ·exact hB.ns hc
  ·replace e1:cs=c :: c1:=e1
   subst e1;subst e2
   have hB1:Bs out (lastF c c1) (lastF c' cs1'):=hB.bs
   have hN1:Nsp out (lastF c c1):=hB.ns (by simp)
   cases c1 with
   | cons a b =>
    cases cs1' with
    | nil=>cases hS1
    | cons a' b'=>exact⟨hB1,fun _=>hN1⟩
   | nil =>
    cases cs1' with
    | cons a' b'=>cases hS1
    | nil =>
     refine⟨?_,fun q=>absurd rfl q⟩
     rcases hp with ⟨v,v',e3,e4⟩ | ⟨ch,ch',e3,e4⟩
     ·replace e3:f1=c.finish v:=e3
      subst e3;subst e4
      exact bs_finish hB1 hN1 v v'
     ·replace e3:f1=c.raise ch:=e3
      subst e3
      exact absurd (raise_run hB1.run ch) (noP hl1)
end
end Go.Proofs.YtdoibgmmijhlfaaGreat.Sm
namespace Go.Proofs.YtdoibgmmijhlfaaGreat.Sm
open Go Go.Conc Go.ConcN
set_option linter.unusedVariables false
section
variable {Rw:Ending→World→Prop}
theorem LW.nil{R:Ending→World→Prop}{f:FuncId}{ts:Array Value}{cs:List Frame}{w:World}(h:LWc R ⟨fr0 f ts [] .run,cs,w⟩):LWc R ⟨fr0 f ts [] .returning,cs,w⟩∧Nx Crz.prog ⟨fr0 f ts [] .returning,cs,w⟩ ⟨fr0 f ts [] .run,cs,w⟩ :=
 h.go pL (t:=w.tape) fun m0 rest=>c_nil Crz.prog m0 f ts (cs++rest) w
theorem LW.leaf{R:Ending→World→Prop}{s:LS}(h:LWc R s)(hc:s.cs=[])(hm:s.fr.mode≠.run):∃ t e,s.fr.leaving Crz.prog (s.w.taped t) e∧R e (s.w.taped t):=by
 obtain⟨fr,cs,w⟩:=s
 replace hc:cs=[]:=hc
 subst hc
 have hw:=h.will
 cases hw with
 | @leaf _ _ t e h1 h2 r=>exact⟨t,e,h2,r⟩
 | step n hn k =>
  obtain⟨es,hes⟩:=hn w.tape
  have hr:runN Crz.prog 1 (lone fr ([]++[c0]) (w.taped w.tape))=.next (lone (n w.tape).1 ((n w.tape).2.1++[c0]) (n w.tape).2.2):=by simp only [runN,will_lone hes]
  exact absurd hr (base_stops pL h.good rfl hm _ 1 (Nat.le_refl _) _ _ _)
theorem run_mute{p:Program}{ev:Operand→Value}{o:Oper}{w:World}(hev:ev (.const (.bool true))=.bool true):(execOp ev (mute o)).runT p w #[]=(.ok (.value (.bool true)) w,#[]):=by
 unfold execOp mute
 simp [hev,go_sem]
theorem dst_sc:(mute scOp).dst=none:=by kernel_rfl
theorem dst_ct:(mute ctOp).dst=some 24:=by kernel_rfl
def pa(out:Bool):Nat:=if out then 22 else 5
def pv(out:Bool):Nat:=if out then 21 else 23
theorem put_vals{out:Bool}{a v:Value}(hRw:∀ e w,Rw e w→e=.returned (.tuple #[a,v])){ts:Array Value}{wl:World}(h:LWc Rw ⟨fr0 (kf out) ts [.inRegion (oO out) [ix out]] .run,[],wl⟩):ts.getD (pa out) undef=a∧ts.getD (pv out) undef=v:=by
 have fin:∀ {f:FuncId} {fn:Func} {ts2:Array Value} {x y:Nat},Crz.prog.funcs[f]? = some fn→fn.results=#[.tmp x,.tmp y]→LWc Rw ⟨fr0 f ts2 [] .returning,[],wl⟩→ts2.getD x undef=a∧ts2.getD y undef=v:=by
  intro f fn ts2 x y hf hr hl
  obtain⟨t,e,hle,r⟩:=hl.leaf rfl (by intro q;cases q)
  have he:=hRw _ _ r
  subst he
  obtain⟨_,_,_,fn',hf',hres⟩:=hle
  replace hf':Crz.prog.funcs[f]? = some fn':=hf'
  rw [hf] at hf'
  cases hf'
  have hq:=results_tmp2 hr ts2 Crz.prog (wl.taped t)
  replace hres:(results fn ts2).run Crz.prog (wl.taped t)=_:=hres
  rw [hq] at hres
  have h2:#[ts2.getD x undef,ts2.getD y undef]=#[a,v]:=by
   have:=(Result.ok.inj hres).1
   simpa using this
  simpa using h2
 cases out with
 | true =>
  obtain⟨h1,_⟩:=LW.value (f:=42) (ops:=scO) (i:=16) (r:=[]) (k:=[]) (v:=.bool true) scO_16 guard_sc (run_mute rfl) h
  have e1:(fr0 42 ts [.inRegion scO [16]] .run).finish (.bool true)=fr0 42 ts [.inRegion scO []] .run:=by
   show fr0 _ (match (scO[16]?).bind (·.dst) with | some d=>ts.setIfInBounds d (.bool true) | none=>ts) _ _=_
   rw [scO_16]
   simp only [Option.bind_some,dst_sc]
   rfl
  rw [e1] at h1
  obtain⟨h2,_⟩:=LW.regionEnd h1
  obtain⟨h3,_⟩:=LW.nil h2
  exact fin Crz.func42 Crz.results42 h3
 | false =>
  obtain⟨h1,_⟩:=LW.value (f:=38) (ops:=ctO) (i:=1) (r:=[]) (k:=[]) (v:=.bool true) ctO_1 guard_ct (run_mute rfl) h
  have e1:(fr0 38 ts [.inRegion ctO [1]] .run).finish (.bool true)=fr0 38 (ts.setIfInBounds 24 (.bool true)) [.inRegion ctO []] .run:=by
   show fr0 _ (match (ctO[1]?).bind (·.dst) with | some d=>ts.setIfInBounds d (.bool true) | none=>ts) _ _=_
   rw [ctO_1]
   simp only [Option.bind_some,dst_ct]
   rfl
  rw [e1] at h1
  obtain⟨h2,_⟩:=LW.regionEnd h1
  obtain⟨h3,_⟩:=LW.nil h2
  have h4:=fin Crz.func38 Crz.results38 h3
  have e2:∀ j,j≠24→(ts.setIfInBounds 24 (.bool true)).getD j undef=ts.getD j undef:=fun j hj=>by
   rw [Array.getD_eq_getD_getElem?,Array.getElem?_setIfInBounds_ne (Ne.symm hj),← Array.getD_eq_getD_getElem?]
  rw [e2 5 (by decide),e2 23 (by decide)] at h4
  exact h4
end
end Go.Proofs.YtdoibgmmijhlfaaGreat.Sm
namespace Go.Proofs.YtdoibgmmijhlfaaGreat.Sm
open Go Go.Conc Go.ConcN Go.ConcN.Gen Go.RowKit Go.Conc.Lib Go.ConcR.Gen Go.Proofs.YtdoibgmmijhlfaaGreat.Wgk
open Go.ConcR (KK wgBlock WgAt stA smA rd wr mk DC0)
set_option linter.unusedVariables false
set_option linter.unusedSimpArgs false
def Put(wg:Nat)(out:Bool)(X off:Nat)(v:Int)(gb:Goroutine)(g:Goroutine)(w:World):Prop:=g.status=.running ∧
 (out=true→∀ u,w.cell? ⟨X,off,none⟩=some u→w.frozen? ⟨X,off,none⟩=false→∃ g',stepG Tryz.prog false g w=.go g' (w.setCell ⟨X,off,none⟩ (.int .i64 v)) #[⟨.cell ⟨X,off,none⟩,true,false⟩]∧(WgLive 124 wg (w.setCell ⟨X,off,none⟩ (.int .i64 v))→GL Tryz.prog false 124 wg (Back gb) g' (w.setCell ⟨X,off,none⟩ (.int .i64 v)))) ∧
 (out=false→∀ s,w.cell? ⟨X,off,none⟩=some (.int .i64 s)→w.frozen? ⟨X,off,none⟩=false→∃ g',stepG Tryz.prog false g w=.go g' (w.setCell ⟨X,off,none⟩ (.int .i64 (IntKind.i64.wrap (s+v)))) #[⟨.cell ⟨X,off,none⟩,false,true⟩,⟨.cell ⟨X,off,none⟩,true,true⟩] ∧
  (WgLive 124 wg (w.setCell ⟨X,off,none⟩ (.int .i64 (IntKind.i64.wrap (s+v))))→GL Tryz.prog false 124 wg (Back gb) g' (w.setCell ⟨X,off,none⟩ (.int .i64 (IntKind.i64.wrap (s+v))))))
section
variable {main:Bool}{b:Frame}{a:Act}{kk:List Item}{cs:List Frame}{w:World}{ops:Array Oper}{i:Nat}{rest:List Nat}{o:Oper}
theorem stepG_st3{x y:Operand}(ho:ops[i]? = some o)(hw:Region.wanted o (yielded ops a.tmps)=true)(hk:b.kind≠.early)(hop:o.op=.store 3 x y)
  {ad:Addr} {v:Int} {u:Value} (hx:a.eval x=.pointer (some ad)) (hy:a.eval y=.int .i64 v) (hc:w.cell? ad=some u) (hz:w.frozen? ad=false) (hq:(Tryz.prog.funcs[b.fn]?).any (·.norace)=false) :
  stepG Tryz.prog main (G (b.at a (.inRegion ops (i :: rest) :: kk)) cs) w=.go (G (b.at (a.put o.dst undef) (.inRegion ops rest :: kk)) cs) (w.setCell ad (.int .i64 v)) #[⟨.cell ad,true,false⟩]:=by
 have hr:(execOp a.eval o).run Tryz.prog w=.ok .skip (w.setCell ad (.int .i64 v)):=by
  unfold execOp
  simp only [hop,hx,hy]
  simp [go_sem,stored,hc,hz]
 have he:(execOp a.eval o).events Tryz.prog w #[]=#[⟨.cell ad,true,false⟩]:=by
  unfold execOp
  simp only [hop,hx,hy]
  simp [go_sem,storedEv,hc,hz]
 rw [stepG_none ho hw hk hr]
 unfold listed
 rw [he,seen_eq hq (by simp)]
end
theorem loudS:(Tryz.prog.funcs[(base 42).fn]?).any (·.norace)=false:=by kernel_rfl
theorem op_sc':scOp.op=.store 3 (.tmp 22) (.tmp 21)∧scOp.dst=none:=⟨by kernel_rfl,by kernel_rfl⟩
theorem op_ct':ctOp.op=.call { callee:=.value (.func 40),args:=#[.tmp 5,.tmp 23],argTypes:=#[81,2] }∧ctOp.dst=some 24:=⟨by kernel_rfl,by kernel_rfl⟩
set_option maxRecDepth 100000 in
set_option maxHeartbeats 4000000 in
theorem putWalk{wg X off:Nat}{v:Int}{out:Bool}{ts':Array Value}{c0f:Frame}{w:World}(ha:ts'.getD (pa out) undef=.pointer (some ⟨X,off,none⟩))(hv:ts'.getD (pv out) undef=.int .i64 v)(hF:WgLive 124 wg w) :
  GL Tryz.prog false 124 wg (Put wg out X off v (G (c0f.finish (.tuple #[])) [bot])) (gor (fr0 (kf out) ts' [.inRegion (oC out) [ix out]] .run) (c0f :: [bot])) w:=by
 cases out with
 | true =>
  refine⟨0,fun w₁ h₁=>⟨rfl,fun _ u hc hz=>?_,fun q=>by cases q⟩⟩
  have hst:=stepG_st3 (main:=false) (b:=base 42) (a:=⟨ts',[]⟩) (kk:=[]) (cs:=c0f :: [bot]) (ops:=scOps) (i:=16) (rest:=[]) (o:=scOp) sc_op (by unfold Region.wanted;rw [guard_sc']) (by decide) op_sc'.1 ha hv hc hz loudS
  refine⟨_,hst,fun hF=>⟨10,?_⟩⟩
  clear hst hc hz
  ·rw [op_sc'.2]
   u_c stepG_region_end rR hF
   u_c stepG_end rR hF
   u_in rR hF
   rw [stepG_leave (b:=base 42) (c:=c0f) rfl rfl Tryz.func42 (results_none rfl _ _ _) (events_results_none rfl _ _)]
   simp only [goes_go]
   exact⟨by u_nil,Goes.stop fun _ _=>rfl⟩
 | false =>
  refine⟨40,?_⟩
  u_in rR hF
  refine goes_call (b:=base 38) (a:=⟨ts',[]⟩) (k:=[]) (cs:=c0f :: [bot]) (ops:=ctOps) (i:=1) (rest:=[]) (o:=ctOp) ct_op (by unfold Region.wanted;rw [guard_ct']) (by decide) op_ct'.1 Tryz.func40 nmA rfl ⟨by u_nil,?_⟩
  have e5:(⟨ts',[]⟩:Act).eval (.tmp 5)=.pointer (some ⟨X,off,none⟩):=ha
  have e23:(⟨ts',[]⟩:Act).eval (.tmp 23)=.int .i64 v:=hv
  simp only [List.map_toArray,List.map_cons,List.map_nil,e5,e23]
  walk_nrmf Tryz.f40
  u_c stepG_seq rR hF
  u_reg rR hF
  u_op rR hF
  u_c stepG_region_end rR hF
  u_c stepG_seq rR hF
  u_reg rR hF
  u_op rR hF
  u_op rR hF
  u_op rR hF
  u_op rR hF
  refine Goes.stop (fun w₂ h₂=>?_)
  clear h₂ hF
  refine⟨rfl,fun q=>(by cases q),fun _ s hc hz=>?_⟩
  refine⟨_,stepG_add_atomic rfl rfl (by k_ne) rfl Tryz.func71 xA_n xA_b xA_x .i64 xA_f rfl rfl hc hz,fun hF=>⟨100,?_⟩⟩
  clear hc hz
  walk_nrm
  u_op rR hF
  u_c stepG_region_end rR hF
  u_c stepG_ret' rR hF
  u_in rR hF
  rw [stepG_leave (b:=base 40) rfl rfl Tryz.func40 (results_tmp rfl _ _ _) (events_results_tmp rfl _ _),Frame.finish_at]
  simp only [goes_go]
  refine⟨by u_nil,?_⟩
  u_c stepG_region_end rR hF
  u_c stepG_end rR hF
  u_in rR hF
  rw [stepG_leave (b:=base 38) (c:=c0f) rfl (by rw [ct_op];simp [op_ct'.2,Act.put]) Tryz.func38 (results_none rfl _ _ _) (events_results_none rfl _ _)]
  simp only [goes_go]
  exact⟨by u_nil,Goes.stop fun _ _=>rfl⟩
end Go.Proofs.YtdoibgmmijhlfaaGreat.Sm
namespace Go.Proofs.YtdoibgmmijhlfaaGreat.Sm
open Go Go.Conc Go.ConcN Go.ConcN.Gen Go.RowKit Go.Conc.Lib Go.ConcR.Gen Go.Proofs.YtdoibgmmijhlfaaGreat.Wgk
set_option linter.unusedVariables false
theorem fnm_sc : (Tryz.f42.name == "runtime.NumGoroutine") = false := by kernel_rfl
theorem fnm_ct : (Tryz.f38.name == "runtime.NumGoroutine") = false := by kernel_rfl
noncomputable def eO:Oper:=opsE.getD 2 (op1 none 0 (.move (.tmp 0)))
theorem eO_get:opsE[2]? = some eO:=by kernel_rfl
theorem eO_op:eO.op=.call { callee:=.value (.tmp 12),args:=#[.tmp 13],argTypes:=#[3] }:=by kernel_rfl
theorem eO_guard:eO.guard=none:=by kernel_rfl
theorem run_value{p:Program}{ev:Operand→Value}{o:Oper}{g:FuncId}{fn:Func}{a:Operand}{x:Value}{t:Nat}{caps:Array Value}{ats:Array TypeId}{w:World}(h:o.op=.call { callee:=.value (.tmp t),args:=#[a],argTypes:=ats })(hev:ev (.tmp t)=.func (.func g) #[] caps)(hx:ev a=x)
  (hf : p.funcs[g]? = some fn) (hname : (fn.name == "runtime.NumGoroutine") = false) (hb : fn.body.isNone = false) : (execOp ev o).runT p w #[] = (.ok (.enter g (#[x] ++ caps)) w, #[]) := by
 have h1 : ¬ fn.name = "runtime.NumGoroutine" := by simpa using hname
 have h2:¬ fn.body=none:=by cases hx:fn.body <;> simp_all
 unfold execOp
 simp [h,resolve,Deferred.ofValue,invoke,callFunc,hf,h1,h2,hev,hx]
theorem callStep{wg nx bn bf:Nat}{c:Int}{out:Bool}{caps:Array Value}{c0f:Frame}{w:World}(h:AtF wg nx bn bf c (.func (.func (kf out)) #[] caps) c0f) :
  stepG Tryz.prog false (G c0f [bot]) w=.go (gor (Frame.enter Tryz.prog (kf out) (#[.int .i64 c]++caps) .normal) [c0f,bot]) w #[]:=by
 obtain⟨T,hT,t0,t1,t2,t3,t12,t13,rfl⟩:=h
 have hw:Region.wanted eO (yielded opsE (⟨T,[dcall 68 #[ptrTo wg]]⟩:Act).tmps)=true:=by unfold Region.wanted;rw [eO_guard]
 have e12:(⟨T,[dcall 68 #[ptrTo wg]]⟩:Act).eval (.tmp 12)=.func (.func (kf out)) #[] caps:=by
  show T.getD 12 undef=_
  rw [Array.getD_eq_getD_getElem?,t12];rfl
 have e13:(⟨T,[dcall 68 #[ptrTo wg]]⟩:Act).eval (.tmp 13)=.int .i64 c:=by
  show T.getD 13 undef=_
  rw [Array.getD_eq_getD_getElem?,t13];rfl
 have hr:(execOp (⟨T,[dcall 68 #[ptrTo wg]]⟩:Act).eval eO).runT Tryz.prog w #[]=(.ok (.enter (kf out) (#[.int .i64 c]++caps)) w,#[]):=by
  cases out
  ·exact run_value eO_op e12 e13 Tryz.func38 fnm_ct rfl
  ·exact run_value eO_op e12 e13 Tryz.func42 fnm_sc rfl
 have hr1:=congrArg Prod.fst hr
 have hr2:=congrArg Prod.snd hr
 rw [Sem.runT_eq] at hr1 hr2
 have:=stepG_enter (P:=Tryz.prog) (main:=false) (b:=bE) (a:=⟨T,[dcall 68 #[ptrTo wg]]⟩) (k:=[.inBlock 1,.code regE,.inLoop loopE,.inBlock 0]) (cs:=[bot]) (ops:=opsE) (i:=2) (rest:=[]) eO_get hw (by decide) hr1
 rw [this]
 unfold listed
 rw [show (execOp (⟨T,[dcall 68 #[ptrTo wg]]⟩:Act).eval eO).events Tryz.prog w #[]=#[] from hr2,seen_none]
 rfl
def Ren.cast(ρ:Ren cxM):Ren cx:=⟨ρ.rel,ρ.fn,ρ.inj,ρ.glob⟩
section
variable {ρ:Ren cxM}{F:FuncId→Prop}
theorem VRel.cast{x y:Value}(h:VRel ρ F x y):VRel ρ.cast F x y:=by
 induction h with
 | bool b=>exact .bool b
 | int k n=>exact .int k n
 | string s=>exact .string s
 | ptr0=>exact .ptr0
 | ptr h=>exact .ptr ⟨h.blk,h.off,h.spot⟩
 | sl0 n c=>exact .sl0 n c
 | sl n c h=>exact .sl n c ⟨h.blk,h.off,h.spot⟩
 | slz b=>exact .slz b
 | bad h=>exact .bad h
 | nilFunc=>exact .nilFunc
 | func hf h1 _ h3 _ i2 i4=>exact .func hf h1 i2 h3 i4
 | iface t ht _ ih=>exact VRel.iface (G:=cx) (ρ:=ρ.cast) t (show cx.mark t=false from ht) ih
 | agg h1 _ ih=>exact .agg h1 ih
 | tuple h1 _ ih=>exact .tuple h1 ih
theorem WRel.cast{w w':World}(h:WRel ρ F w w'):WRel ρ.cast F w w':=by
 refine⟨fun b c hr=>?_,h.base⟩
 obtain⟨o,o',h1,h2,h3⟩:=h.objs b c hr
 refine⟨o,o',h1,h2,?_⟩
 cases h3 with
 | row hx=>exact .row (hx.imp id fun ⟨k1,k2⟩=>⟨⟨k1.size,fun i x y a b=>(k1.at_ i x y a b).cast⟩,k2⟩)
 | number hx=>exact .number ⟨hx.blk,hx.off,hx.spot⟩
theorem WRel.wide{G:Cx}{ρ:Ren G}{F F':FuncId→Prop}{w w':World}(h:WRel ρ F w w')(k:∀ f,F f→F' f):WRel ρ F' w w':=by
 refine⟨fun b c hr=>?_,h.base⟩
 obtain⟨o,o',h1,h2,h3⟩:=h.objs b c hr
 refine⟨o,o',h1,h2,?_⟩
 cases h3 with
 | row hx=>exact .row (hx.imp id fun ⟨k1,k2⟩=>⟨⟨k1.size,fun i x y a b=>(k1.at_ i x y a b).wide k⟩,k2⟩)
 | number hx=>exact .number hx
theorem RW.wide{G:Cx}{ρ:Ren G}{F F':FuncId→Prop}{xs ys:Array Value}(h:RW ρ F xs ys)(k:∀ f,F f→F' f):RW ρ F' xs ys:=⟨h.size,fun i x y a b=>(h.at_ i x y a b).wide k⟩
end
theorem enter_fr0{p:Program}{f:FuncId}{fn:Func}{b:Go.Code}(zs:Array Value)(h1:p.funcs[f]? = some fn)(h2:fn.body=some b):Frame.enter p f zs .normal=fr0 f (zs++Array.replicate (fn.ntmps-zs.size) undef) [.code b] .run:=by
 simp [Frame.enter,h1,h2,fr0]
noncomputable def nt(out:Bool):Nat:=if out then Tryz.f42.ntmps else Tryz.f38.ntmps
theorem enter_c(out:Bool)(xs:Array Value):Frame.enter Crz.prog (kf out) xs .normal=fr0 (kf out) (xs++Array.replicate (nt out-xs.size) undef) (if out then [.code (.region 0 scO true)] else [.code (.seq ctFst (.region 1 ctO false))]) .run ∧
  Frame.enter Tryz.prog (kf out) xs .normal=fr0 (kf out) (xs++Array.replicate (nt out-xs.size) undef) (if out then [.code (.region 0 scOps true)] else [.code (.seq ctFst (.region 1 ctOps false))]) .run:=by
 cases out
 ·exact⟨enter_fr0 (fn:=countS) xs Crz.func38 ctS_body,enter_fr0 xs Tryz.func38 ct_body⟩
 ·exact⟨enter_fr0 (fn:=scoresS) xs Crz.func42 scS_body,enter_fr0 xs Tryz.func42 sc_body⟩
theorem rel_kf(out:Bool):TRel Crz.prog Tryz.prog cx.mark famM (deadA (kf out)) (SpA (kf out)) (if out then [.code (.region 0 scO true)] else [.code (.seq ctFst (.region 1 ctO false))]) (if out then [.code (.region 0 scOps true)] else [.code (.seq ctFst (.region 1 ctOps false))]):=by
 cases out
 ·exact .cons (.code ct_rel) .nil
 ·exact .cons (.code sc_rel) .nil
theorem bt_kf(out:Bool):Bt out (if out then [.code (.region 0 scO true)] else [.code (.seq ctFst (.region 1 ctO false))]) (if out then [.code (.region 0 scOps true)] else [.code (.seq ctFst (.region 1 ctOps false))]):=by
 cases out
 ·exact .c0
 ·exact .s0
theorem run_begins{ρ:Ren cxM}{Rw:Ending→World→Prop}{out:Bool}{wl wE w:World}{O:Nat}{xs ys:Array Value}(hW:WRel ρ (inF famM) wl wE)(hold:∀ b c,ρ.rel b c→b≠O→w.heap[c]? = wE.heap[c]?)
  (hhid:∀ c,ρ.rel O c→∃ us e z ys z',wl.heap[O]? = some (.cells us e z)∧w.heap[c]? = some (.cells ys e z')) (hrow:RW ρ (inF famM) xs ys)
  (hC:∀ t,Calls Crz.prog (kf out) xs ((iceW wl (· == O)).taped t) Rw) (hRo:∀ w,¬ Rw .outgrown w) :
  CoW Rw ρ.cast ⟨Frame.enter Crz.prog (kf out) xs .normal,[],iceW wl (· == O)⟩ (Frame.enter Tryz.prog (kf out) ys .normal) [] w∧Bq out ⟨Frame.enter Crz.prog (kf out) xs .normal,[],iceW wl (· == O)⟩ (Frame.enter Tryz.prog (kf out) ys .normal) []:=by
 have hI:WRel ρ (inF famM) (iceW wl (· == O)) w:=hW.ice (fun b c hr hb=>hold b c hr (by simpa using hb)) (fun b c hr hb=>by
  have:b=O:=by simpa using hb
  subst this
  exact hhid c hr)
 have hI2:WRel ρ.cast (inF famM) (iceW wl (· == O)) w:=hI.cast
 have hrow2:RW ρ.cast (inF famM) xs ys:=⟨hrow.size,fun i x y a b=>(hrow.at_ i x y a b).cast⟩
 obtain⟨e1,_⟩:=enter_c out xs
 obtain⟨_,e4⟩:=enter_c out ys
 have hnn:=e4
 rw [← hrow.size] at hnn
 have hfam:fam (kf out)=true:=by cases out <;> kernel_rfl
 have hg:Good Crz.prog fam cx0 ⟨Frame.enter Crz.prog (kf out) xs .normal,[],iceW wl (· == O)⟩ :=
  good_enter (p':=Tryz.prog) (G:=cx) (sb:=fam) (fb':=fam) pL rfl (fun t _=>rfl) hfam (hI2.wide fun f hf=>famM_fam hf) (hrow2.wide fun f hf=>famM_fam hf)
 have hwl:=will_of_calls pL hg hRo hC
 rw [hnn]
 rw [e1] at hg hwl ⊢
 exact⟨⟨.base (.mk (kf out) (.of (hrow2.append (.replicate _ VRel.undef))) (rel_kf out) .run),hI2,hg,hwl⟩,⟨rfl,rfl,rfl,bt_kf out⟩,fun q=>absurd rfl q⟩
end Go.Proofs.YtdoibgmmijhlfaaGreat.Sm
namespace Go.Proofs.YtdoibgmmijhlfaaGreat.Sm
open Go Go.Conc Go.ConcN Go.ConcN.Gen Go.RowKit Go.Conc.Lib Go.ConcR.Gen Go.Proofs.YtdoibgmmijhlfaaGreat.Wgk
open Go.ConcR (KK wgBlock WgAt stA smA rd wr mk DC0)
set_option linter.unusedVariables false
structure Rd where
 w0:World
 wE:World
 wl:World
 ρ:Ren cxM
 hd0:Nat→Bool
 g0:Nat
 n:Nat
 nw:Nat
 out:Bool
 X:Nat
 O:Nat
 eX:TypeId
 zX:Nat×Nat
 x0:Array Value
 c:Nat→Int
 caps:Array Value
 caps':Array Value
namespace Rd
variable (d:Rd)
abbrev bn:Nat:=d.wE.heap.size
abbrev bf:Nat:=d.wE.heap.size+1
abbrev nx:Nat:=d.wE.heap.size+2
abbrev wg:Nat:=d.wE.heap.size+3
def fv:Value:=.func (.func (kf d.out)) #[] d.caps'
def hd(b:Nat):Bool:=d.hd0 b || b == d.nx || b == d.wg
def off(i:Nat):Nat:=if d.out then i else 0
def Rw(i:Nat)(e:Ending)(_:World):Prop:=e=.returned (.tuple #[.pointer (some ⟨d.O,d.off i,none⟩),.int .i64 (d.c i)])
end Rd
structure Gh where
 j:Nat
 cnt:Nat
 cl:Nat→Nat
 dn:Nat→Bool
 ow:Nat→Nat
def Rd.rg(d:Rd)(h:Gh):RG:=⟨d.hd,d.X,d.out,d.g0,h.j,h.cl,h.ow⟩
inductive Stg (p:Program) where
 | add | rdn (c:Nat) | rdf (c:Nat) | cal (c:Nat) | run (c:Nat) (a:AS p) | put (c:Nat) | aft (c:Nat) | rel | di | d1 | d2 | d3 | d4 | quit
def Stg.item{p:Program}:Stg p→Option Nat
 | .rdn c | .rdf c | .cal c | .run c _ | .put c=>some c
 | _=>none
abbrev GLm(wg:Nat)(Stop:Goroutine→World→Prop)(m:Nat)(g:Goroutine)(w:World):Prop:=Goes Tryz.prog false (RL 124 wg) DC0 Stop m g w
section
variable (d:Rd)
def Said(t:Trace)(id:Nat):Prop:=∃ r,Rel d.hd (stA d.wg) t id r
def WS(h:Gh)(id:Nat)(t:Trace):Stg Crz.prog→Nat→Goroutine→World→Prop
 | .add,m,g,w=>GLm d.wg (AAdd d.wg d.nx d.bn d.bf d.n d.fv) m g w∧Deaf t id=0
 | .rdn c,m,g,w=>GLm d.wg (ARd d.wg d.nx d.bn d.bf d.n d.fv c) m g w∧Deaf t id=0
 | .rdf c,m,g,w=>GLm d.wg (ARf d.wg d.nx d.bn d.bf c d.fv) m g w∧Deaf t id=0∧c<d.n
 | .cal c,m,g,w=>GLm d.wg (ACall d.wg d.nx d.bn d.bf c d.fv) m g w∧Deaf t id=0∧c<d.n
 | .run c a,_,g,w=>(∃ ρk fr' cs' c0f,g=gor fr' (cs'++[c0f,bot])∧CoW (d.Rw c) ρk a.1 fr' cs' w∧Bq d.out a.1 fr' cs'∧Wv (d.rg h) id ρk a.1.w∧(∀ c',ρk.rel d.O c'→c'=d.X)∧ρk.rel d.O d.X∧AtF d.wg d.nx d.bn d.bf c d.fv c0f)∧Deaf t id=0∧c<d.n
 | .put c,m,g,w=>(∃ c0f,GLm d.wg (Put d.wg d.out d.X (d.off c) (d.c c) (G (c0f.finish (.tuple #[])) [bot])) m g w∧AtF d.wg d.nx d.bn d.bf c d.fv c0f)∧Deaf t id=0∧c<d.n
 | .aft c,m,g,w=>(∃ c0f,GLm d.wg (Back (G (c0f.finish (.tuple #[])) [bot])) m g w∧AtF d.wg d.nx d.bn d.bf c d.fv c0f)∧Deaf t id=0
 | .rel,m,g,w=>GLm d.wg (DRel Tryz.prog 124 d.wg) m g w∧Deaf t id=0
 | .di,m,g,w=>GLm d.wg (DDi Tryz.prog 124 d.wg) m g w∧Deaf t id=0∧Said d t id
 | .d1,m,g,w=>GLm d.wg (D1 Tryz.prog 124 d.wg) m g w∧Deaf t id=1∧Said d t id
 | .d2,m,g,w=>GLm d.wg (D2 Tryz.prog 124 d.wg) m g w∧Deaf t id=1∧Said d t id
 | .d3,m,g,w=>GLm d.wg (D3 Tryz.prog 124 d.wg) m g w∧Deaf t id=1∧Said d t id
 | .d4,m,g,w=>GLm d.wg (D4 Tryz.prog 124 d.wg) m g w∧Deaf t id=1∧Said d t id
 | .quit,m,g,w=>QuitsD Tryz.prog m (Deaf t id) g∧Said d t id
end
structure Rely(d:Rd)(id:Nat)(h h':Gh)(w w':World)(t u:Trace):Prop where
 live:WgLive 124 d.wg w→WgLive 124 d.wg w'
 rows:∀ c,d.hd c=false→c≠d.X→(h.ow c=0∨h.ow c=id)→c<w.heap.size→w'.heap[c]? = w.heap[c]?
 x:∀ ys e z,w.heap[d.X]? = some (.cells ys e z)→∃ ys' z',w'.heap[d.X]? = some (.cells ys' e z')
 ow:∀ c,c<w.heap.size→h'.ow c=h.ow c
 g:∀ op∈u,op.g≠id
theorem Rel.others{hd:Nat→Bool}{ad:Addr}{t u:Trace}{k r:Nat}(h:Rel hd ad t k r)(hu:∀ op∈u,op.g≠k):Rel hd ad (t++u) k r:=by
 refine h.app (h.by_.app fun i hi hg=>?_) fun op hop hg=>absurd hg (hu op hop)
 obtain⟨op,ho,hog⟩:=Option.map_eq_some_iff.1 hg
 rcases getElem?_append_cases ho with ⟨hlt,_⟩ | ⟨_,hou⟩
 ·omega
 ·exact absurd hog (hu op hou)
theorem deaf_others{t u:Trace}{k:Nat}(hu:∀ op∈u,op.g≠k):Deaf (t++u) k=Deaf t k:=by
 obtain⟨l⟩:=u
 rw [Deaf_append]
 induction l generalizing t with
 | nil=>rfl
 | cons y l ih =>
  have e1:deafStep k (Deaf t k) y=Deaf t k:=by
   have hy:=hu y (by simp)
   unfold deafStep
   split <;> simp [hy]
  rw [List.foldl_cons,e1]
  exact ih fun op hop=>hu op (by simp at hop ⊢;exact .inr hop)
theorem Said.others{d:Rd}{t u:Trace}{id:Nat}(h:Said d t id)(hu:∀ op∈u,op.g≠id):Said d (t++u) id:=by
 obtain⟨r,hr⟩:=h
 exact⟨r,hr.others hu⟩
theorem rl_trans{ty:TypeId}{wg:Nat}:∀ a b c:World,RL ty wg a b→RL ty wg b c→RL ty wg a c:=fun _ _ _ h k l=>k (h l)
theorem rl_of{d:Rd}{id:Nat}{h h':Gh}{w w':World}{t u:Trace}(r:Rely d id h h' w w' t u):RL 124 d.wg w w':=r.live
theorem WS.others{d:Rd}{h h':Gh}{id:Nat}{t u:Trace}{w w':World}{g:Goroutine}{m:Nat}(r:Rely d id h h' w w' t u)(hid:id≠0):∀ {σ:Stg Crz.prog},WS d h id t σ m g w→WS d h' id (t++u) σ m g w'
 | .add,hs=>⟨Goes.rely rl_trans hs.1 (rl_of r),(deaf_others r.g).trans hs.2⟩
 | .rdn c,hs=>⟨Goes.rely rl_trans hs.1 (rl_of r),(deaf_others r.g).trans hs.2⟩
 | .rdf c,hs=>⟨Goes.rely rl_trans hs.1 (rl_of r),(deaf_others r.g).trans hs.2.1,hs.2.2⟩
 | .cal c,hs=>⟨Goes.rely rl_trans hs.1 (rl_of r),(deaf_others r.g).trans hs.2.1,hs.2.2⟩
 | .run c a,hs=>by
  obtain⟨⟨ρk,fr',cs',c0f,e,hC,hB,hv,hO,hOX,hA⟩,h2,h3⟩:=hs
  refine⟨⟨ρk,fr',cs',c0f,e,hC.others fun b c' hr=>?_,hB,⟨fun b c' hr=>?_,hv.xr,fun c' o hm=>?_⟩,hO,hOX,hA⟩,(deaf_others r.g).trans h2,h3⟩
  ·obtain⟨k1,k2⟩:=hv.rng b c' hr
   by_cases hx:c'=d.X
   ·subst hx
    left
    obtain⟨e0,z0,k3⟩:=hv.xr b hr
    obtain⟨o,o',q1,q2,q3⟩:=hC.wr.objs b _ hr
    rw [k3] at q1
    cases q1
    cases q3 with
    | row hx =>
     obtain⟨ys',z',q4⟩:=r.x _ _ _ q2
     exact⟨_,_,_,_,_,k3,rfl,q4⟩
   ·exact .inr (r.rows c' k1 hx k2 (hC.wr.lt hr))
  ·obtain⟨k1,k2⟩:=hv.rng b c' hr
   exact⟨k1,by show h'.ow c'=0∨h'.ow c'=id;rw [r.ow c' (hC.wr.lt hr)];exact k2⟩
  ·have hlt:c'<w.heap.size:=by obtain⟨b,_,_,_,hr,_⟩:=hm;exact hC.wr.lt hr
   show h'.ow c'=id
   rw [r.ow c' hlt];exact hv.mw c' o hm
 | .put c,hs=>by
  obtain⟨⟨c0f,hg,hA⟩,h2,h3⟩:=hs
  exact⟨⟨c0f,Goes.rely rl_trans hg (rl_of r),hA⟩,(deaf_others r.g).trans h2,h3⟩
 | .aft c,hs=>by
  obtain⟨⟨c0f,hg,hA⟩,h2⟩:=hs
  exact⟨⟨c0f,Goes.rely rl_trans hg (rl_of r),hA⟩,(deaf_others r.g).trans h2⟩
 | .rel,hs=>⟨Goes.rely rl_trans hs.1 (rl_of r),(deaf_others r.g).trans hs.2⟩
 | .di,hs=>⟨Goes.rely rl_trans hs.1 (rl_of r),(deaf_others r.g).trans hs.2.1,hs.2.2.others r.g⟩
 | .d1,hs=>⟨Goes.rely rl_trans hs.1 (rl_of r),(deaf_others r.g).trans hs.2.1,hs.2.2.others r.g⟩
 | .d2,hs=>⟨Goes.rely rl_trans hs.1 (rl_of r),(deaf_others r.g).trans hs.2.1,hs.2.2.others r.g⟩
 | .d3,hs=>⟨Goes.rely rl_trans hs.1 (rl_of r),(deaf_others r.g).trans hs.2.1,hs.2.2.others r.g⟩
 | .d4,hs=>⟨Goes.rely rl_trans hs.1 (rl_of r),(deaf_others r.g).trans hs.2.1,hs.2.2.others r.g⟩
 | .quit,hs=>⟨by rw [deaf_others r.g];exact hs.1,hs.2.others r.g⟩
theorem WS.running{d:Rd}{h:Gh}{id:Nat}{t:Trace}{w:World}{g:Goroutine}{m:Nat}:∀ {σ:Stg Crz.prog},σ≠.quit→WS d h id t σ m g w→g.status=.running
 | .add,_,hs=>Goes.running (fun _ _ x=>x.1) w (fun x=>x) hs.1
 | .rdn c,_,hs=>Goes.running (fun _ _ x=>x.1) w (fun x=>x) hs.1
 | .rdf c,_,hs=>Goes.running (fun _ _ x=>x.1) w (fun x=>x) hs.1
 | .cal c,_,hs=>Goes.running (fun _ _ x=>by obtain⟨c0,_,rfl⟩:=x;rfl) w (fun x=>x) hs.1
 | .run c a,_,hs=>by obtain⟨⟨ρk,fr',cs',c0f,rfl,_⟩,_⟩:=hs;rfl
 | .put c,_,hs=>by obtain⟨⟨c0f,hg,_⟩,_⟩:=hs;exact Goes.running (fun _ _ x=>x.1) w (fun x=>x) hg
 | .aft c,_,hs=>by obtain⟨⟨c0f,hg,_⟩,_⟩:=hs;exact Goes.running (fun _ _ x=>by rw [x];rfl) w (fun x=>x) hg
 | .rel,_,hs=>Goes.running (fun _ _ x=>x.1) w (fun x=>x) hs.1
 | .di,_,hs=>Goes.running (fun _ _ x=>x.1) w (fun x=>x) hs.1
 | .d1,_,hs=>Goes.running (fun _ _ x=>x.1) w (fun x=>x) hs.1
 | .d2,_,hs=>Goes.running (fun _ _ x=>x.1) w (fun x=>x) hs.1
 | .d3,_,hs=>Goes.running (fun _ _ x=>x.1) w (fun x=>x) hs.1
 | .d4,_,hs=>Goes.running (fun _ _ x=>x.1) w (fun x=>x) hs.1
 | .quit,hq,_=>absurd rfl hq
theorem WS.status{d:Rd}{h:Gh}{id:Nat}{t:Trace}{w:World}{g:Goroutine}{m:Nat}{σ:Stg Crz.prog}(hs:WS d h id t σ m g w):g.status=.running∨g.status=.finished:=by
 by_cases hq:σ=.quit
 ·subst hq;exact hs.1.status
 ·exact .inl (hs.running hq)
end Go.Proofs.YtdoibgmmijhlfaaGreat.Sm
namespace Go.Proofs.YtdoibgmmijhlfaaGreat.Sm
open Go Go.Conc Go.ConcN Go.ConcN.Gen Go.RowKit Go.Conc.Lib Go.ConcR.Gen Go.Proofs.YtdoibgmmijhlfaaGreat.Wgk
open Go.ConcR (KK wgBlock WgAt stA smA rd wr mk DC0)
set_option linter.unusedVariables false
section
variable {w:World}{b o c:Nat}{xs:Array Value}{e:TypeId}{z:Nat×Nat}{v:Value}{a:Addr}
theorem set_row(h:w.heap[b]? = some (.cells xs e z)):(w.setCell ⟨b,o,none⟩ v).heap[b]? = some (.cells (xs.setIfInBounds o v) e z):=by
 simp [World.setCell,Array.getElem?_modify,h]
theorem set_oth(h:c≠b):(w.setCell ⟨b,o,none⟩ v).heap[c]? = w.heap[c]?:=by
 simp only [World.setCell,Array.getElem?_modify,if_neg (Ne.symm h)]
theorem set_size:(w.setCell a v).heap.size=w.heap.size:=by simp [World.setCell]
theorem set_grows(h:w.heap[b]? = some (.cells xs e z)):Grows w (w.setCell ⟨b,o,none⟩ v):=by
 refine⟨by rw [set_size];exact Nat.le_refl _,fun d ys e1 z1 hd=>?_,fun d a l hd=>?_,rfl,rfl,rfl⟩
 ·by_cases q:d=b
  ·subst q
   rw [h] at hd;cases hd
   exact⟨_,set_row h,by simp⟩
  ·exact⟨ys,by rw [set_oth q];exact hd,rfl⟩
 ·by_cases q:d=b
  ·subst q;rw [h] at hd;cases hd
  ·rw [set_oth q];exact hd
end
def dsum(c:Nat→Int)(dn:Nat→Bool):Nat→Int
 | 0=>0
 | k+1=>dsum c dn k+if dn k then c k else 0
def upd(dn:Nat→Bool)(c:Nat):Nat→Bool:=fun i=>i == c || dn i
theorem dsum_bound{c:Nat→Int}{dn:Nat→Bool}{B:Int}:∀ {n:Nat},(∀ i,i<n→0≤c i∧c i≤B)→0≤dsum c dn n∧dsum c dn n≤B * n
 | 0,_=>⟨Int.le_refl _,by simp [dsum]⟩
 | n+1,h=>by
  obtain⟨h1,h2⟩:=dsum_bound (n:=n) (dn:=dn) (fun i hi=>h i (by omega))
  obtain⟨h3,h4⟩:=h n (by omega)
  have e:B * ((n+1:Nat):Int)=B * n+B:=by rw [Int.natCast_add,Int.mul_add];simp
  rw [e]
  simp only [dsum]
  split <;> constructor <;> omega
theorem dsum_upd{c:Nat→Int}{dn:Nat→Bool}{k:Nat}(hk:dn k=false):∀ {n:Nat},dsum c (upd dn k) n=dsum c dn n+if k<n then c k else 0
 | 0=>by simp [dsum]
 | n+1=>by
  simp only [dsum]
  rw [dsum_upd hk]
  by_cases e:n=k
  ·subst e
   simp [upd,hk]
  ·have:upd dn k n=dn n:=by simp [upd,e]
   rw [this]
   by_cases h1:k<n
   ·rw [if_pos h1,if_pos (show k<n+1 by omega)];omega
   ·rw [if_neg h1,if_neg (show ¬ k<n+1 by omega)];omega
namespace Rd
variable (d:Rd)
def xrow(dn:Nat→Bool):Array Value:=if d.n=0 then d.x0 else if d.out then ((List.range d.n).map fun i=>Value.int .i64 (if dn i then d.c i else 0)).toArray else #[.int .i64 (dsum d.c dn d.n)]
structure Ok:Prop where
 n_le:d.n≤1000000
 nw1:1≤d.nw
 nw8:d.nw≤8
 wr:WRel d.ρ (inF famM) d.wl d.wE
 ox:d.ρ.rel d.O d.X
 xe:∃ ys,d.wE.heap[d.X]? = some (.cells ys d.eX d.zX)
 lo:∃ us e z,d.wl.heap[d.O]? = some (.cells us e z)
 caps:RW d.ρ (inF famM) d.caps d.caps'
 calls:∀ i,i<d.n→∀ t,Calls Crz.prog (kf d.out) (#[.int .i64 i]++d.caps) ((iceW d.wl (· == d.O)).taped t) (d.Rw i)
 vis:∀ b c,d.ρ.rel b c→d.hd0 c=false
 hdlt:∀ c,d.hd0 c=true→c<d.bn
 bnd:d.out=false→∀ i,i<d.n→0≤d.c i∧d.c i≤50000
 thaw:d.n≠0→∀ i,¬ (d.zX.1≤i∧i<d.zX.2)
variable {d}
theorem Ok.xlt(h:d.Ok):d.X<d.bn:=h.wr.lt h.ox
theorem Ok.xhd0(h:d.Ok):d.hd0 d.X=false:=h.vis _ _ h.ox
theorem Ok.hd_old(h:d.Ok){c:Nat}(hc:c<d.bn):d.hd c=d.hd0 c:=by
 have h1:(c == d.nx)=false:=by
  have:c≠d.nx:=by show c≠d.wE.heap.size+2;have:c<d.wE.heap.size:=hc;omega
  simpa using this
 have h2:(c == d.wg)=false:=by
  have:c≠d.wg:=by show c≠d.wE.heap.size+3;have:c<d.wE.heap.size:=hc;omega
  simpa using this
 unfold Rd.hd;rw [h1,h2];simp
theorem Ok.xhd(h:d.Ok):d.hd d.X=false:=(h.hd_old h.xlt).trans h.xhd0
theorem Ok.hd_lt(h:d.Ok){c:Nat}(hc:d.hd c=true):c<d.bn+4:=by
 unfold Rd.hd at hc
 simp only [Bool.or_eq_true,beq_iff_eq] at hc
 rcases hc with (hc | hc) | hc
 ·have:=h.hdlt c hc;omega
 ·rw [hc];show d.wE.heap.size+2<d.wE.heap.size+4;omega
 ·rw [hc];show d.wE.heap.size+3<d.wE.heap.size+4;omega
theorem hd_nx:d.hd d.nx=true:=by simp [Rd.hd]
theorem hd_wg:d.hd d.wg=true:=by simp [Rd.hd]
theorem Ok.hd_bn(h:d.Ok):d.hd d.bn=false:=by
 have h0:d.hd0 d.bn=false:=by
  cases hb:d.hd0 d.bn with
  | false=>rfl
  | true=>have:=h.hdlt _ hb;omega
 unfold Rd.hd;rw [h0];simp [Rd.bn,Rd.nx,Rd.wg]
theorem Ok.hd_bf(h:d.Ok):d.hd d.bf=false:=by
 have h0:d.hd0 d.bf=false:=by
  cases hb:d.hd0 d.bf with
  | false=>rfl
  | true=>have:=h.hdlt _ hb;simp only [Rd.bn,Rd.bf] at this;omega
 unfold Rd.hd;rw [h0];simp [Rd.bf,Rd.nx,Rd.wg]
theorem xrow_put{dn:Nat→Bool}{c:Nat}(ho:d.out=true)(hc:c<d.n):(d.xrow dn).setIfInBounds (d.off c) (.int .i64 (d.c c))=d.xrow (upd dn c):=by
 unfold Rd.xrow Rd.off
 have hn:¬ d.n=0:=by omega
 rw [if_neg hn,if_neg hn,if_pos ho,if_pos ho,if_pos ho]
 apply Array.ext_getElem?
 intro i
 by_cases hi:c=i
 ·subst hi
  rw [Array.getElem?_setIfInBounds_self]
  simp [hc,upd]
 ·rw [Array.getElem?_setIfInBounds_ne hi]
  by_cases hn:i<d.n
  ·have:upd dn c i=dn i:=by
    have:i≠c:=fun e=>hi e.symm
    simp [upd,this]
   simp [hn,this]
  ·simp [hn]
theorem xrow_cell{dn:Nat→Bool}{c:Nat}(ho:d.out=true)(hc:c<d.n):∃ u,(d.xrow dn)[d.off c]? = some u:=by
 unfold Rd.xrow Rd.off
 have hn:¬ d.n=0:=by omega
 rw [if_neg hn,if_pos ho,if_pos ho]
 exact⟨.int .i64 (if dn c then d.c c else 0),by simp [hc]⟩
theorem xrow_sum{dn:Nat→Bool}(hn:d.n≠0)(ho:d.out=false):d.xrow dn=#[.int .i64 (dsum d.c dn d.n)]:=by unfold Rd.xrow;rw [if_neg hn,ho];rfl
theorem Ok.xrow_add(h:d.Ok){dn:Nat→Bool}{c:Nat}(ho:d.out=false)(hc:c<d.n)(hd:dn c=false):(d.xrow dn).setIfInBounds (d.off c) (.int .i64 (IntKind.i64.wrap (dsum d.c dn d.n+d.c c)))=d.xrow (upd dn c):=by
 have e0:d.off c=0:=by unfold Rd.off;rw [ho];rfl
 rw [xrow_sum (by omega) ho,xrow_sum (by omega) ho,e0,dsum_upd hd,if_pos hc]
 obtain⟨h1,h2⟩:=dsum_bound (dn:=dn) (h.bnd ho)
 obtain⟨h3,h4⟩:=h.bnd ho c hc
 have:=h.n_le
 rw [IntKind.wrap_i64]
 have:dsum d.c dn d.n≤50000 * 1000000:=Int.le_trans h2 (Int.mul_le_mul_of_nonneg_left (by omega) (by omega))
 have e1:((dsum d.c dn d.n+d.c c)+9223372036854775808) % 18446744073709551616-9223372036854775808=dsum d.c dn d.n+d.c c:=by omega
 simp only [e1]
 rfl
end Rd
structure WI(d:Rd)(h:Gh)(w:World):Prop where
 old:∀ c,c<d.bn→c≠d.X→w.heap[c]? = d.wE.heap[c]?
 cn:w.heap[d.bn]? = some (.cells #[.int .i64 d.n] 3)
 cf:w.heap[d.bf]? = some (.cells #[d.fv] 85)
 cx:w.heap[d.nx]? = some (.cells #[.int .i64 h.cnt] 81)
 x:w.heap[d.X]? = some (.cells (d.xrow h.dn) d.eX d.zX)
 live:WgLive 124 d.wg w
 size:d.bn+4≤w.heap.size
 grows:Grows d.w0 w
 ow0:∀ c,c<d.bn+4→h.ow c=0
section
variable {d:Rd}{h:Gh}{w:World}
theorem WI.at(hI:WI d h w)(k:Nat):WI d h (w.at k):=⟨hI.old,hI.cn,hI.cf,hI.cx,hI.x,hI.live,hI.size,hI.grows.at k,hI.ow0⟩
theorem WI.hd_lt(hI:WI d h w)(hd:d.Ok){c:Nat}(hc:d.hd c=true):c<w.heap.size:=Nat.lt_of_lt_of_le (hd.hd_lt hc) hI.size
theorem WI.cell_n(hI:WI d h w):w.cell? ⟨d.bn,0,none⟩=some (.int .i64 d.n):=by unfold World.cell?;rw [hI.cn];rfl
theorem WI.cell_f(hI:WI d h w):w.cell? ⟨d.bf,0,none⟩=some d.fv:=by unfold World.cell?;rw [hI.cf];rfl
theorem WI.cell_x(hI:WI d h w):w.cell? ⟨d.nx,0,none⟩=some (.int .i64 h.cnt):=by unfold World.cell?;rw [hI.cx];rfl
theorem WI.thaw_x(hI:WI d h w):w.frozen? ⟨d.nx,0,none⟩=false:=by unfold World.frozen?;rw [hI.cx];simp
theorem WI.thaw(hI:WI d h w)(hd:d.Ok)(hn:d.n≠0)(o:Nat):w.frozen? ⟨d.X,o,none⟩=false:=by
 unfold World.frozen?
 rw [hI.x]
 have:=hd.thaw hn o
 simpa using this
theorem WI.setG(hI:WI d h w)(hd:d.Ok){o:Nat}{v:Value}(hl:WgLive 124 d.wg (w.setCell ⟨d.wg,o,none⟩ v)):WI d h (w.setCell ⟨d.wg,o,none⟩ v):=by
 obtain⟨st,sm,hg⟩:=hI.live
 have hx:=hd.xlt
 refine⟨fun c hc hne=>?_,?_,?_,?_,?_,hl,by rw [set_size];exact hI.size,hI.grows.trans (set_grows hg),hI.ow0⟩
 ·rw [set_oth (by simp only [Rd.bn,Rd.wg] at *;omega)];exact hI.old c hc hne
 ·rw [set_oth (by simp only [Rd.bn,Rd.wg];omega)];exact hI.cn
 ·rw [set_oth (by simp only [Rd.bf,Rd.wg];omega)];exact hI.cf
 ·rw [set_oth (by simp only [Rd.nx,Rd.wg];omega)];exact hI.cx
 ·rw [set_oth (by simp only [Rd.bn,Rd.wg] at *;omega)];exact hI.x
theorem live_oth(hl:WgLive 124 d.wg w){b o:Nat}{v:Value}(hb:b≠d.wg):WgLive 124 d.wg (w.setCell ⟨b,o,none⟩ v):=by
 obtain⟨st,sm,hg⟩:=hl
 exact⟨st,sm,by unfold Go.ConcR.WgAt at *;rw [set_oth (Ne.symm hb)];exact hg⟩
def Gh.claim(h:Gh)(id:Nat):Gh:={ h with cnt:=h.cnt+1,cl:=fun i=>if i=h.cnt then id else h.cl i }
def Gh.put(h:Gh)(c:Nat):Gh:={ h with dn:=upd h.dn c }
def Gh.take(h:Gh)(H id:Nat):Gh:={ h with ow:=fun b=>if H≤b then id else h.ow b }
def Gh.more(h:Gh):Gh:={ h with j:=h.j+1 }
theorem WI.claim(hI:WI d h w)(hd:d.Ok)(id:Nat):WI d (h.claim id) (w.setCell ⟨d.nx,0,none⟩ (.int .i64 (h.cnt+1))):=by
 have hx:=hd.xlt
 refine⟨fun c hc hne=>?_,?_,?_,?_,?_,live_oth hI.live (by simp [Rd.nx,Rd.wg]),by rw [set_size];exact hI.size,hI.grows.trans (set_grows hI.cx),hI.ow0⟩
 ·rw [set_oth (by simp only [Rd.bn,Rd.nx] at *;omega)];exact hI.old c hc hne
 ·rw [set_oth (by simp only [Rd.bn,Rd.nx];omega)];exact hI.cn
 ·rw [set_oth (by simp only [Rd.bf,Rd.nx];omega)];exact hI.cf
 ·rw [set_row hI.cx];rfl
 ·rw [set_oth (by simp only [Rd.bn,Rd.nx] at *;omega)];exact hI.x
theorem WI.put(hI:WI d h w)(hd:d.Ok){c o:Nat}{v:Value}(hx:(d.xrow h.dn).setIfInBounds o v=d.xrow (upd h.dn c)):WI d (h.put c) (w.setCell ⟨d.X,o,none⟩ v):=by
 have hl:=hd.xlt
 refine⟨fun c hc hne=>?_,?_,?_,?_,?_,live_oth hI.live (by simp only [Rd.bn,Rd.wg] at *;omega),by rw [set_size];exact hI.size,hI.grows.trans (set_grows hI.x),hI.ow0⟩
 ·rw [set_oth hne];exact hI.old c hc hne
 ·rw [set_oth (by simp only [Rd.bn] at *;omega)];exact hI.cn
 ·rw [set_oth (by simp only [Rd.bn,Rd.bf] at *;omega)];exact hI.cf
 ·rw [set_oth (by simp only [Rd.bn,Rd.nx] at *;omega)];exact hI.cx
 ·rw [set_row hI.x,hx];rfl
theorem WI.run(hI:WI d h w)(hd:d.Ok){id:Nat}{u:World}(hid:id≠0)(hg:Grows w u)(ho:∀ c,c<w.heap.size→h.ow c≠id→u.heap[c]? = w.heap[c]?):WI d (h.take w.heap.size id) u:=by
 have hl:=hd.xlt
 have hs:=hI.size
 have k:∀ c,c<d.bn+4→u.heap[c]? = w.heap[c]?:=fun c hc=>ho c (by omega) (by rw [hI.ow0 c hc];exact fun e=>hid e.symm)
 refine⟨fun c hc hne=>?_,?_,?_,?_,?_,?_,by have:=hg.size;omega,hI.grows.trans hg,fun c hc=>?_⟩
 ·rw [k c (by omega)];exact hI.old c hc hne
 ·rw [k _ (by omega)];exact hI.cn
 ·rw [k _ (by simp only [Rd.bn,Rd.bf];omega)];exact hI.cf
 ·rw [k _ (by simp only [Rd.bn,Rd.nx];omega)];exact hI.cx
 ·rw [k _ (by omega)];exact hI.x
 ·obtain⟨st,sm,h1⟩:=hI.live
  exact⟨st,sm,(k _ (by simp only [Rd.bn,Rd.wg];omega)).trans h1⟩
 ·show (if w.heap.size≤c then id else h.ow c)=0
  rw [if_neg (by omega)];exact hI.ow0 c hc
end
def Hid(hd:Nat→Bool)(g:Nat)(e:Event):Prop:=(∀ a,MemAct.ofEvent e≠.mark (.release a))∧∀ b,(MemAct.ofEvent e).touch? = some b→∃ ad,b.loc=.cell ad∧hd ad.block=true∧(b.kind=.atomic∨(b.kind=.said∧g=0))
section
variable {hd:Nat→Bool}{g:Nat}{a:Addr}
theorem hid_rd(h:hd a.block=true):Hid hd g (rd a):=⟨fun a e=>(by cases e),fun b hb=>by cases hb;exact⟨a,rfl,h,.inl rfl⟩⟩
theorem hid_wr(h:hd a.block=true):Hid hd g (wr a):=⟨fun a e=>(by cases e),fun b hb=>by cases hb;exact⟨a,rfl,h,.inl rfl⟩⟩
theorem hid_dis:Hid hd g (mk .disable):=⟨fun a e=>(by cases e),fun b hb=>by cases hb⟩
theorem hid_ena:Hid hd g (mk .enable):=⟨fun a e=>(by cases e),fun b hb=>by cases hb⟩
theorem hid_rel:Hid hd g (mk (.releaseMerge a)):=⟨fun a e=>(by cases e),fun b hb=>by cases hb⟩
theorem hid_read(h:hd a.block=true):Hid hd 0 ⟨.mark (.read a),false,true⟩:=⟨fun a e=>(by cases e),fun b hb=>by cases hb;exact⟨a,rfl,h,.inr ⟨rfl,rfl⟩⟩⟩
theorem hid_write(h:hd a.block=true):Hid hd 0 ⟨.mark (.write a),false,true⟩:=⟨fun a e=>(by cases e),fun b hb=>by cases hb;exact⟨a,rfl,h,.inr ⟨rfl,rfl⟩⟩⟩
theorem hid_sem(h:hd a.block=true):∀ e∈semEvents a,Hid hd g e:=by
 intro e he
 simp only [semEvents,List.mem_toArray,List.mem_cons,List.not_mem_nil,or_false] at he
 rcases he with rfl | rfl | rfl | rfl
 ·exact hid_dis
 ·exact hid_rd h
 ·exact hid_wr h
 ·exact hid_ena
theorem TR.hid{γ:RG}{H:Nat}{t:Trace}{fn:FuncId}{pos:String}{es:Array Event}(h:TR γ H t)(hc:g=0∨γ.cur g)(hl:∀ c,γ.hd c=true→c<H)(he:∀ e∈es,Hid γ.hd g e):TR γ H (t++MemOp.ofEvents g fn pos es):=by
 refine h.app hc (Nat.le_refl _) (fun op hop=>(mO hop).choose_spec.2.1) (fun op hop b hb=>?_) (fun op hop a q=>?_) (fun op hop b ad hb hla=>?_)
 ·obtain⟨e,hm,_,h2⟩:=mO hop
  rw [h2] at hb
  obtain⟨ad,k1,k2,k3⟩:=(he e hm).2 b hb
  unfold RG.may
  rw [k1]
  exact .inl ⟨k2,k3⟩
 ·obtain⟨e,hm,_,h2⟩:=mO hop
  rw [h2] at q
  exact(he e hm).1 a q
 ·obtain⟨e,hm,_,h2⟩:=mO hop
  rw [h2] at hb
  obtain⟨ad',k1,k2,k3⟩:=(he e hm).2 b hb
  rw [k1] at hla;cases hla
  exact hl _ k2
end
end Go.Proofs.YtdoibgmmijhlfaaGreat.Sm
namespace Go.Proofs.YtdoibgmmijhlfaaGreat.Sm
open Go Go.Conc Go.ConcN Go.ConcN.Gen Go.RowKit Go.Conc.Lib Go.ConcR.Gen Go.Proofs.YtdoibgmmijhlfaaGreat.Wgk
open Go.ConcR (KK wgBlock WgAt stA smA rd wr mk DC0)
set_option linter.unusedVariables false
theorem cnt_set{α:Type}{p:α→Bool}{x x':α}:∀ {ws:List α} {k:Nat},ws[k]? = some x→(ws.set k x').countP p+(p x).toNat=ws.countP p+(p x').toNat
 | [],k,h=>by simp at h
 | y :: ws,0,h=>by
  simp only [List.getElem?_cons_zero,Option.some.injEq] at h
  subst h
  simp only [List.set_cons_zero,List.countP_cons]
  cases p y <;> cases p x' <;> simp <;> omega
 | y :: ws,k+1,h=>by
  have ih:=cnt_set (p:=p) (x':=x') (show ws[k]? = some x by simpa using h)
  simp only [List.set_cons_succ,List.countP_cons]
  omega
theorem cnt_pos{α:Type}{p:α→Bool}{x:α}{ws:List α}{k:Nat}(h:ws[k]? = some x)(hp:p x=true):0<ws.countP p:=List.countP_pos_iff.2 ⟨x,List.mem_of_getElem? h,hp⟩
namespace Stg
variable {p:Program}
def al:Stg p→Bool | d2 | d3 | d4 | quit=>false | _=>true
def b3:Stg p→Bool | d2 | d3=>true | _=>false
def b4:Stg p→Bool | d4=>true | _=>false
def past:Stg p→Bool | rel | di | d1 | d2 | d3 | d4 | quit=>true | _=>false
def ex(n:Nat):Stg p→Bool | rdn c=>decide (n≤c) | rel | di | d1 | d2 | d3 | d4 | quit=>true | _=>false
def rank(n:Nat):Stg p→Nat | rdn c=>if n≤c then 13 else 20 | rdf _=>19 | cal _=>18 | run _ _=>17 | put _=>16 | aft _=>15 | add=>14 | rel=>12 | di=>11 | d1=>10 | d2=>9 | d3=>8 | d4=>7 | quit=>6
def asO:Stg p→Option (AS p) | run _ a=>some a | _=>none
end Stg
abbrev Ws:Type:=List (Stg Crz.prog×Nat)
noncomputable def nA(ws:Ws):Nat:=ws.countP fun s=>s.1.al
noncomputable def n3(ws:Ws):Nat:=ws.countP fun s=>s.1.b3
noncomputable def n4(ws:Ws):Nat:=ws.countP fun s=>s.1.b4
noncomputable def nE(n:Nat)(ws:Ws):Nat:=ws.countP fun s=>s.1.ex n
structure Its(d:Rd)(h:Gh)(ws:Ws):Prop where
 clz:∀ i,h.cnt≤i→h.cl i=0
 clle:∀ i,h.cl i≤d.g0+h.j
 owle:∀ b,h.ow b≤d.g0+h.j
 dn:∀ i,h.dn i=true→i<h.cnt
 mine:∀ (k:Nat) (s:Stg Crz.prog×Nat) (c:Nat),ws[k]? = some s→s.1.item=some c→h.cl c=d.g0+1+k∧h.dn c=false∧c<h.cnt
 all:∀ i,i<h.cnt→i<d.n→h.dn i=false→∃ (k:Nat) (s:Stg Crz.prog×Nat),ws[k]? = some s∧s.1.item=some i
 past:∀ (k:Nat) (s:Stg Crz.prog×Nat),ws[k]? = some s→s.1.past=true→d.n≤h.cnt
 bound:h.cnt≤d.n+nE d.n ws
section
variable {d:Rd}{h:Gh}{ws:Ws}{k:Nat}{s s':Stg Crz.prog×Nat}
theorem get_set{α:Type}{ws:List α}{k i:Nat}{x y z:α}(hk:ws[k]? = some x)(h:(ws.set k y)[i]? = some z):(i=k∧z=y)∨(i≠k∧ws[i]? = some z):=by
 by_cases e:k=i
 ·subst e
  have hl:k<ws.length:=(List.getElem?_eq_some_iff.1 hk).1
  rw [List.getElem?_set_self hl] at h
  exact .inl ⟨rfl,(Option.some.inj h).symm⟩
 ·rw [List.getElem?_set_ne e] at h
  exact .inr ⟨fun q=>e q.symm,h⟩
theorem set_self{α:Type}{ws:List α}{k:Nat}{x y:α}(hk:ws[k]? = some x):(ws.set k y)[k]? = some y:=List.getElem?_set_self (List.getElem?_eq_some_iff.1 hk).1
theorem set_ne{α:Type}{ws:List α}{k i:Nat}{y z:α}(e:i≠k)(h:ws[i]? = some z):(ws.set k y)[i]? = some z:=by rw [List.getElem?_set_ne (Ne.symm e)];exact h
theorem Its.move(hI:Its d h ws)(hk:ws[k]? = some s)(hi:s'.1.item=s.1.item∨(s'.1.item=none∧∀ c,s.1.item=some c→d.n≤c))(hp:s'.1.past=true→d.n≤h.cnt)(he:s.1.ex d.n=true→s'.1.ex d.n=true):Its d h (ws.set k s'):=by
 refine⟨hI.clz,hI.clle,hI.owle,hI.dn,fun i z c hz hc=>?_,fun i h1 h2 h3=>?_,fun i z hz hq=>?_,?_⟩
 ·rcases get_set hk hz with ⟨rfl,rfl⟩ | ⟨_,hz'⟩
  ·rcases hi with hi | ⟨hi,_⟩
   ·rw [hi] at hc;exact hI.mine i s c hk hc
   ·rw [hi] at hc;cases hc
  ·exact hI.mine i z c hz' hc
 ·obtain⟨q,z,hz,hc⟩:=hI.all i h1 h2 h3
  by_cases e:q=k
  ·subst e
   rw [hk] at hz;cases hz
   rcases hi with hi | ⟨_,hi⟩
   ·exact⟨q,s',set_self hk,by rw [hi];exact hc⟩
   ·have:=hi i hc;omega
  ·exact⟨q,z,set_ne e hz,hc⟩
 ·rcases get_set hk hz with ⟨rfl,rfl⟩ | ⟨_,hz'⟩
  ·exact hp hq
  ·exact hI.past i z hz' hq
 ·have:=cnt_set (p:=fun s=>s.1.ex d.n) (x':=s') hk
  have hb:=hI.bound
  unfold nE at *
  cases h1:s.1.ex d.n with
  | false=>rw [h1] at this;simp only [Bool.toNat_false] at this;omega
  | true=>rw [h1,he h1] at this;omega
theorem Its.claim(hI:Its d h ws)(hk:ws[k]? = some s)(hs:s.1.item=none)(hsx:s.1.ex d.n=false)(hlt:k<h.j){m:Nat}:Its d (h.claim (d.g0+1+k)) (ws.set k (.rdn h.cnt,m)):=by
 refine⟨fun i hi=>?_,fun i=>?_,hI.owle,fun i hi=>Nat.lt_succ_of_lt (hI.dn i hi),fun i z c hz hc=>?_,fun i h1 h2 h3=>?_,fun i z hz hq=>?_,?_⟩
 ·have hi':h.cnt+1≤i:=hi
  show (if i=h.cnt then _ else h.cl i)=0
  rw [if_neg (by omega)];exact hI.clz i (by omega)
 ·show (if i=h.cnt then d.g0+1+k else h.cl i)≤d.g0+h.j
  split
  ·omega
  ·exact hI.clle i
 ·rcases get_set hk hz with ⟨rfl,rfl⟩ | ⟨_,hz'⟩
  ·obtain rfl:h.cnt=c:=by simpa [Stg.item] using hc
   refine⟨if_pos rfl,?_,Nat.lt_succ_self _⟩
   show h.dn h.cnt=false
   cases hd:h.dn h.cnt with
   | false=>rfl
   | true=>have:=hI.dn _ hd;omega
  ·obtain⟨h1,h2,h3⟩:=hI.mine i z c hz' hc
   refine⟨?_,h2,Nat.lt_succ_of_lt h3⟩
   show (if c=h.cnt then _ else h.cl c)=_
   rw [if_neg (by omega)];exact h1
 ·by_cases e:i=h.cnt
  ·exact⟨k,_,set_self hk,by rw [e];rfl⟩
  ·have h1':i<h.cnt+1:=h1
   obtain⟨q,z,hz,hc⟩:=hI.all i (by omega) h2 h3
   have:q≠k:=by rintro rfl;rw [hk] at hz;cases hz;rw [hs] at hc;cases hc
   exact⟨q,z,set_ne this hz,hc⟩
 ·rcases get_set hk hz with ⟨rfl,rfl⟩ | ⟨_,hz'⟩
  ·cases hq
  ·exact Nat.le_succ_of_le (hI.past i z hz' hq)
 ·have:=cnt_set (p:=fun s=>s.1.ex d.n) (x':=((.rdn h.cnt,m):Stg Crz.prog×Nat)) hk
  have hb:=hI.bound
  show h.cnt+1≤_
  unfold nE at *
  rw [hsx] at this
  by_cases hc:d.n≤h.cnt
  ·have e2:(Stg.rdn h.cnt:Stg Crz.prog).ex d.n=true:=decide_eq_true hc
   rw [e2] at this;simp only [Bool.toNat_true,Bool.toNat_false] at this;omega
  ·omega
theorem Its.put(hI:Its d h ws)(hk:ws[k]? = some s){c:Nat}(hc:s.1.item=some c)(h1:s'.1.item=none)(h2:s'.1.past=false)(h3:s.1.ex d.n=false):Its d (h.put c) (ws.set k s'):=by
 obtain⟨m1,m2,m3⟩:=hI.mine k s c hk hc
 refine⟨hI.clz,hI.clle,hI.owle,fun i hi=>?_,fun i z c' hz hc'=>?_,fun i q1 q2 q3=>?_,fun i z hz hq=>?_,?_⟩
 ·have hi':upd h.dn c i=true:=hi
  simp only [upd,Bool.or_eq_true,beq_iff_eq] at hi'
  rcases hi' with rfl | hi'
  ·exact m3
  ·exact hI.dn i hi'
 ·rcases get_set hk hz with ⟨rfl,rfl⟩ | ⟨hne,hz'⟩
  ·rw [h1] at hc';cases hc'
  ·obtain⟨n1,n2,n3⟩:=hI.mine i z c' hz' hc'
   refine⟨n1,?_,n3⟩
   show upd h.dn c c'=false
   have:c'≠c:=by rintro rfl;omega
   simp [upd,this,n2]
 ·have q3':upd h.dn c i=false:=q3
  simp only [upd,Bool.or_eq_false_iff,beq_eq_false_iff_ne] at q3'
  obtain⟨q,z,hz,hcz⟩:=hI.all i q1 q2 q3'.2
  have:q≠k:=by
   rintro rfl
   rw [hk] at hz;cases hz
   rw [hc] at hcz;cases hcz
   exact q3'.1 rfl
  exact⟨q,z,set_ne this hz,hcz⟩
 ·rcases get_set hk hz with ⟨rfl,rfl⟩ | ⟨_,hz'⟩
  ·rw [h2] at hq;cases hq
  ·exact hI.past i z hz' hq
 ·have:=cnt_set (p:=fun s=>s.1.ex d.n) (x':=s') hk
  have hb:=hI.bound
  show h.cnt≤_
  unfold nE at *
  rw [h3] at this
  simp only [Bool.toNat_false] at this
  omega
theorem Its.take(hI:Its d h ws){H id:Nat}(hid:id≤d.g0+h.j):Its d (h.take H id) ws :=
 ⟨hI.clz,hI.clle,fun b=>(by
  show (if H≤b then id else h.ow b)≤_
  split
  ·exact hid
  ·exact hI.owle b),hI.dn,hI.mine,hI.all,hI.past,hI.bound⟩
end
inductive Md where | op (p:Nat) | rg (b:Bool) | fin
def Grp(d:Rd)(ws:Ws)(w:World):Md→Prop
 | .op p=>n3 ws=0∧n4 ws=0∧WgAt 124 d.wg w (((nA ws+p:Nat):Int) * KK) 0
 | .rg b=>(nA ws≠0∧n3 ws=0∧n4 ws=0∧WgAt 124 d.wg w ((nA ws:Int) * KK+1) 0)∨(nA ws=0∧n3 ws=1∧n4 ws=0∧WgAt 124 d.wg w 1 0)∨(nA ws=0∧n3 ws=0∧n4 ws=1∧WgAt 124 d.wg w 0 0)∨(b=true∧nA ws=0∧n3 ws=0∧n4 ws=0∧WgAt 124 d.wg w 0 1)
 | .fin=>nA ws=0∧n3 ws=0∧n4 ws=0∧WgAt 124 d.wg w 0 0
inductive MSt where | spn (r:Nat) | adi (r:Nat) | aat (r:Nat) | ard (r:Nat) | aen (r:Nat) | abk (r:Nat) | asp (r:Nat) | wdi | wan | w1 | w2 (v:Nat) | wwr | w3 | blk | w4 | wen | wacq
namespace MSt
def md:MSt→Md
 | spn _ | adi _ | aat _ | wdi | wan | w1 | w2 _=>.op 0
 | ard _ | aen _ | abk _ | asp _=>.op 1
 | wwr | w3=>.rg true
 | blk=>.rg false
 | w4 | wen | wacq=>.fin
def df:MSt→Nat
 | aat _ | ard _ | aen _ | wan | w1 | w2 _ | wwr | w3 | blk | w4 | wen=>1
 | _=>0
def rem:MSt→Nat
 | spn r=>r
 | adi r | aat r | ard r | aen r | abk r | asp r=>r+1
 | _=>0
def rank(a:Nat):MSt→Nat
 | spn _=>20 | adi _=>19 | aat _=>18 | ard _=>17 | aen _=>16 | abk _=>15 | asp _=>14 | wdi=>13 | wan=>11 | w1=>10 | w2 v=>if v=a then 9 else 12 | wwr=>8 | w3=>7 | blk=>6 | w4=>5 | wen=>4 | wacq=>3
def wake:Bool→MSt→MSt
 | true,blk=>w3
 | _,μ=>μ
theorem wake_rem(b:Bool)(μ:MSt):(μ.wake b).rem=μ.rem:=by cases b <;> cases μ <;> rfl
theorem wake_df(b:Bool)(μ:MSt):(μ.wake b).df=μ.df:=by cases b <;> cases μ <;> rfl
end MSt
theorem Grp.wake{d:Rd}{ws:Ws}{w:World}{μ:MSt}(h:Grp d ws w μ.md)(b:Bool):Grp d ws w (μ.wake b).md:=by
 cases μ
 case blk =>
  cases b
  ·exact h
  ·rcases h with h | h | h | h
   ·exact .inl h
   ·exact .inr (.inl h)
   ·exact .inr (.inr (.inl h))
   ·cases h.1
 all_goals (cases b <;> exact h)
theorem Grp.live{d:Rd}{ws:Ws}{w:World}:∀ {md:Md},Grp d ws w md→WgLive 124 d.wg w
 | .op _,h=>⟨_,_,h.2.2⟩
 | .rg _,h=>by
  rcases h with h | h | h | h
  ·exact⟨_,_,h.2.2.2⟩
  ·exact⟨_,_,h.2.2.2⟩
  ·exact⟨_,_,h.2.2.2⟩
  ·exact⟨_,_,h.2.2.2.2⟩
 | .fin,h=>⟨_,_,h.2.2.2⟩
theorem Grp.same{d:Rd}{ws ws':Ws}{w w':World}(h1:nA ws'=nA ws)(h2:n3 ws'=n3 ws)(h3:n4 ws'=n4 ws)(hw:∀ st sm,WgAt 124 d.wg w st sm→WgAt 124 d.wg w' st sm):∀ {md:Md},Grp d ws w md→Grp d ws' w' md
 | .op _,h=>by unfold Grp at *;rw [h1,h2,h3];exact⟨h.1,h.2.1,hw _ _ h.2.2⟩
 | .rg _,h=>by
  unfold Grp at *
  rw [h1,h2,h3]
  exact h.imp (fun h=>⟨h.1,h.2.1,h.2.2.1,hw _ _ h.2.2.2⟩) fun h=>h.imp (fun h=>⟨h.1,h.2.1,h.2.2.1,hw _ _ h.2.2.2⟩) fun h=>h.imp (fun h=>⟨h.1,h.2.1,h.2.2.1,hw _ _ h.2.2.2⟩) fun h=>⟨h.1,h.2.1,h.2.2.1,h.2.2.2.1,hw _ _ h.2.2.2.2⟩
 | .fin,h=>by unfold Grp at *;rw [h1,h2,h3];exact⟨h.1,h.2.1,h.2.2.1,hw _ _ h.2.2.2⟩
section
variable (d:Rd)(cs:List Frame)
abbrev GM(Stop:Goroutine→World→Prop)(m:Nat)(g:Goroutine)(w:World):Prop:=Goes Tryz.prog true (RL 124 d.wg) DC0 Stop m g w
abbrev ASp(r:Nat):Goroutine→World→Prop:=ASpawn d.wg d.nx d.bn d.bf (GL Tryz.prog true 124 d.wg (Spawns d.wg d.nx d.bn d.bf cs r))
def KA(r:Nat)(gb:Goroutine):Prop:=∀ w,WgLive 124 d.wg w→GL Tryz.prog true 124 d.wg (ASp d cs r) gb w
def KR(gb:Goroutine):Prop:=∀ w,WgLive 124 d.wg w→GL Tryz.prog true 124 d.wg (AtRet cs) gb w
def KW(gb:Goroutine)(anch:Goroutine→World→Prop):Prop:=∀ g w,anch g w→GL Tryz.prog true 124 d.wg (W1 Tryz.prog 124 d.wg gb anch) g w
def MS:MSt→Nat→Goroutine→World→Prop
 | .spn r,m,g,w=>GM d (Spawns d.wg d.nx d.bn d.bf cs r) m g w
 | .adi r,m,g,w=>∃ gb,GM d (AddDi Tryz.prog 124 d.wg gb) m g w∧KA d cs r gb
 | .aat r,m,g,w=>∃ gb,GM d (AddAt Tryz.prog 124 d.wg gb) m g w∧KA d cs r gb
 | .ard r,m,g,w=>∃ gb,GM d (AddRead Tryz.prog 124 d.wg gb) m g w∧KA d cs r gb
 | .aen r,m,g,w=>∃ gb,GM d (AddEn Tryz.prog 124 d.wg gb) m g w∧KA d cs r gb
 | .abk r,m,g,w=>∃ gb,GM d (Back gb) m g w∧KA d cs r gb∧gb.status=.running
 | .asp r,m,g,w=>GM d (ASp d cs r) m g w
 | .wdi,m,g,w=>∃ gb anch,GM d (WDi Tryz.prog 124 d.wg anch) m g w∧KW d gb anch∧KR d cs gb
 | .wan,m,g,w=>∃ gb anch,GM d anch m g w∧KW d gb anch∧KR d cs gb
 | .w1,m,g,w=>∃ gb anch,GM d (W1 Tryz.prog 124 d.wg gb anch) m g w∧KW d gb anch∧KR d cs gb
 | .w2 v,m,g,w=>∃ gb anch,GM d (W2 Tryz.prog 124 d.wg gb anch v) m g w∧KW d gb anch∧KR d cs gb∧v≠0
 | .wwr,m,g,w=>∃ gb,GM d (WWr Tryz.prog 124 d.wg gb) m g w∧KR d cs gb
 | .w3,m,g,w=>∃ gb,GM d (W3 Tryz.prog 124 d.wg gb) m g w∧KR d cs gb
 | .blk,_,g,w=>∃ gb g0,g={ g0 with status:=.blocked }∧(∀ w₁,RL 124 d.wg w w₁→W3 Tryz.prog 124 d.wg gb g0 w₁)∧KR d cs gb
 | .w4,m,g,w=>∃ gb,GM d (W4 Tryz.prog 124 d.wg gb) m g w∧KR d cs gb
 | .wen,m,g,w=>∃ gb,GM d (WEn Tryz.prog 124 d.wg gb) m g w∧KR d cs gb
 | .wacq,m,g,w=>∃ gb,GM d (WAcq Tryz.prog 124 d.wg gb) m g w∧KR d cs gb
end
section
variable {d:Rd}{cs:List Frame}{h h':Gh}{l:List Nat}{ws:Ws}{μ:MSt}{mm k m m':Nat}{gs:Array Goroutine}{w w':World}{t:Trace}{g g' a:Goroutine}{σ σ':Stg Crz.prog}{sl:Option (Nat×Nat)}{es:Array Event}
theorem gm_rely{Stop:Goroutine→World→Prop}(hg:GM d Stop m g w)(hr:RL 124 d.wg w w'):GM d Stop m g w':=Goes.rely rl_trans hg hr
theorem MS.rely(hr:RL 124 d.wg w w'):∀ {μ:MSt},MS d cs μ m g w→MS d cs μ m g w'
 | .spn _,h=>gm_rely h hr
 | .adi _,⟨gb,h,k⟩=>⟨gb,gm_rely h hr,k⟩
 | .aat _,⟨gb,h,k⟩=>⟨gb,gm_rely h hr,k⟩
 | .ard _,⟨gb,h,k⟩=>⟨gb,gm_rely h hr,k⟩
 | .aen _,⟨gb,h,k⟩=>⟨gb,gm_rely h hr,k⟩
 | .abk _,⟨gb,h,k⟩=>⟨gb,gm_rely h hr,k⟩
 | .asp _,h=>gm_rely h hr
 | .wdi,⟨gb,an,h,k⟩=>⟨gb,an,gm_rely h hr,k⟩
 | .wan,⟨gb,an,h,k⟩=>⟨gb,an,gm_rely h hr,k⟩
 | .w1,⟨gb,an,h,k⟩=>⟨gb,an,gm_rely h hr,k⟩
 | .w2 _,⟨gb,an,h,k⟩=>⟨gb,an,gm_rely h hr,k⟩
 | .wwr,⟨gb,h,k⟩=>⟨gb,gm_rely h hr,k⟩
 | .w3,⟨gb,h,k⟩=>⟨gb,gm_rely h hr,k⟩
 | .blk,⟨gb,g0,e,h,k⟩=>⟨gb,g0,e,fun w₁ h₁=>h w₁ (rl_trans _ _ _ hr h₁),k⟩
 | .w4,⟨gb,h,k⟩=>⟨gb,gm_rely h hr,k⟩
 | .wen,⟨gb,h,k⟩=>⟨gb,gm_rely h hr,k⟩
 | .wacq,⟨gb,h,k⟩=>⟨gb,gm_rely h hr,k⟩
end
end Go.Proofs.YtdoibgmmijhlfaaGreat.Sm
namespace Go.Proofs.YtdoibgmmijhlfaaGreat.Sm
open Go Go.Conc Go.ConcN Go.ConcN.Gen Go.RowKit Go.Conc.Lib Go.ConcR.Gen Go.Proofs.YtdoibgmmijhlfaaGreat.Wgk
open Go.ConcR (KK wgBlock WgAt stA smA rd wr mk DC0 again_blocked)
set_option linter.unusedVariables false
structure RI(d:Rd)(cs:List Frame)(h:Gh)(l:List Nat)(ws:Ws)(μ:MSt)(mm:Nat)(gs:Array Goroutine)(w:World)(t:Trace):Prop where
 size:gs.size=d.g0+h.j+1
 len:ws.length=h.j
 ll:l.length=d.g0
 old:∀ (k q:Nat),l[k]? = some q→∃ g,gs[k+1]? = some g∧QuitsD Tryz.prog q (Deaf t (k+1)) g
 wk:∀ (k:Nat) (s:Stg Crz.prog×Nat),ws[k]? = some s→∃ g,gs[d.g0+1+k]? = some g∧WS d h (d.g0+1+k) t s.1 s.2 g w
 main:∃ a,gs[0]? = some a∧MS d cs μ mm a w
 deaf:Deaf t 0=μ.df
 nw:μ.rem+h.j=d.nw
 wi:WI d h w
 tr:TR (d.rg h) w.heap.size t
 it:Its d h ws
 gp:Grp d ws w μ.md
section
variable {d:Rd}{cs:List Frame}{h h':Gh}{l:List Nat}{ws:Ws}{μ:MSt}{mm k m m':Nat}{gs:Array Goroutine}{w w':World}{t u:Trace}{g g' a:Goroutine}{σ σ':Stg Crz.prog}{sl:Option (Nat×Nat)}{es:Array Event}
theorem rely_same{id:Nat}(ho:h'.ow=h.ow)(hu:∀ op∈u,op.g≠id)(hw:w'.heap=w.heap):Rely d id h h' w w' t u :=
 ⟨fun ⟨a,b,x⟩=>⟨a,b,by unfold Go.ConcR.WgAt at *;rw [hw];exact x⟩,fun c _ _ _ _=>by rw [hw],fun ys e z x=>⟨ys,z,by rw [hw];exact x⟩,fun c _=>by rw [ho],hu⟩
theorem rely_set{id b o:Nat}{v:Value}(ho:h'.ow=h.ow)(hu:∀ op∈u,op.g≠id)(hb:d.hd b=true∨b=d.X)(hl:WgLive 124 d.wg w→WgLive 124 d.wg (w.setCell ⟨b,o,none⟩ v)):Rely d id h h' w (w.setCell ⟨b,o,none⟩ v) t u:=by
 refine⟨hl,fun c hc hx _ _=>set_oth ?_,fun ys e z x=>?_,fun c _=>by rw [ho],hu⟩
 ·rintro rfl
  rcases hb with hb | hb
  ·rw [hb] at hc;cases hc
  ·exact hx hb
 ·by_cases e1:d.X=b
  ·subst e1;exact⟨_,_,set_row x⟩
  ·exact⟨ys,z,by rw [set_oth e1];exact x⟩
theorem rely_run{id id':Nat}(hI:WI d h w)(hd:d.Ok)(hu:∀ op∈u,op.g≠id)(hne:id≠id')(h0:id'≠0)(hk:∀ c,c<w.heap.size→h.ow c≠id'→w'.heap[c]? = w.heap[c]?):Rely d id h (h.take w.heap.size id') w w' t u:=by
 have hs:=hI.size
 have k:∀ c,c<d.bn+4→w'.heap[c]? = w.heap[c]?:=fun c hc=>hk c (by omega) (by rw [hI.ow0 c hc];exact fun e=>h0 e.symm)
 refine⟨fun ⟨a,b,x⟩=>⟨a,b,(k _ (by simp only [Rd.bn,Rd.wg];omega)).trans x⟩,fun c _ _ ho hc=>hk c hc ?_,fun ys e z x=>⟨ys,z,by rw [k _ (by have:=hd.xlt;omega)];exact x⟩,fun c hc=>?_,hu⟩
 ·rcases ho with ho | ho <;> rw [ho]
  ·exact fun e=>h0 e.symm
  ·exact hne
 ·show (if w.heap.size≤c then id' else h.ow c)=h.ow c
  rw [if_neg (by omega)]
theorem tnil(t:Trace)(g:Nat)(fn:FuncId)(pos:String):t++MemOp.ofEvents g fn pos #[]=t:=by simp [MemOp.ofEvents]
theorem RI.at(hI:RI d cs h l ws μ mm gs w t)(k:Nat):RI d cs h l ws μ mm gs (w.at k) t:=by
 refine⟨hI.size,hI.len,hI.ll,hI.old,fun i s hs=>?_,?_,hI.deaf,hI.nw,hI.wi.at k,hI.tr,hI.it,?_⟩
 ·obtain⟨g,h1,h2⟩:=hI.wk i s hs
  have:=WS.others (rely_same (d:=d) (id:=d.g0+1+i) (h:=h) (h':=h) (w:=w) (w':=w.at k) (t:=t) (u:=#[]) rfl (by simp) rfl) (by omega) h2
  exact⟨g,h1,by simpa using this⟩
 ·obtain⟨a,h1,h2⟩:=hI.main
  exact⟨a,h1,MS.rely (w:=w) (w':=w.at k) (fun x=>x) h2⟩
 ·exact hI.gp.same rfl rfl rfl fun _ _ x=>x
theorem MS.status:∀ {μ:MSt},μ≠.blk→MS d cs μ m g w→g.status=.running
 | .spn 0,_,h=>Goes.running (fun _ _ x=>by obtain⟨gb,an,⟨m,h⟩,_⟩:=x;exact Goes.running (fun _ _ x=>x.1) _ (fun y=>y) h) w (fun x=>x) h
 | .spn (r+1),_,h=>Goes.running (fun _ _ x=>by obtain⟨gb,⟨m,h⟩,_⟩:=x;exact Goes.running (fun _ _ x=>x.1) _ (fun y=>y) h) w (fun x=>x) h
 | .adi _,_,⟨gb,h,k⟩=>Goes.running (fun _ _ x=>x.1) w (fun x=>x) h
 | .aat _,_,⟨gb,h,k⟩=>Goes.running (fun _ _ x=>x.1) w (fun x=>x) h
 | .ard _,_,⟨gb,h,k⟩=>Goes.running (fun _ _ x=>x.1) w (fun x=>x) h
 | .aen _,_,⟨gb,h,k⟩=>Goes.running (fun _ _ x=>x.1) w (fun x=>x) h
 | .abk _,_,⟨gb,h,k,e⟩=>Goes.running (fun _ _ x=>by rw [x];exact e) w (fun x=>x) h
 | .asp _,_,h=>Goes.running (fun _ _ x=>x.1) w (fun x=>x) h
 | .wdi,_,⟨gb,an,h,k⟩=>Goes.running (fun _ _ x=>x.1) w (fun x=>x) h
 | .wan,_,⟨gb,an,h,k,_⟩=>Goes.running (fun g w x=>by obtain⟨m,h⟩:=k g w x;exact Goes.running (fun _ _ x=>x.1) w (fun x=>x) h) w (fun x=>x) h
 | .w1,_,⟨gb,an,h,k⟩=>Goes.running (fun _ _ x=>x.1) w (fun x=>x) h
 | .w2 _,_,⟨gb,an,h,k⟩=>Goes.running (fun _ _ x=>x.1) w (fun x=>x) h
 | .wwr,_,⟨gb,h,k⟩=>Goes.running (fun _ _ x=>x.1) w (fun x=>x) h
 | .w3,_,⟨gb,h,k⟩=>Goes.running (fun _ _ x=>x.1) w (fun x=>x) h
 | .blk,hb,_=>absurd rfl hb
 | .w4,_,⟨gb,h,k⟩=>Goes.running (fun _ _ x=>x.1) w (fun x=>x) h
 | .wen,_,⟨gb,h,k⟩=>Goes.running (fun _ _ x=>x.1) w (fun x=>x) h
 | .wacq,_,⟨gb,h,k⟩=>Goes.running (fun _ _ x=>x.1) w (fun x=>x) h
theorem woken_eq(hs:g'.status=.running∨g'.status=.finished)(o:Goroutine):woken Tryz.prog g g' w' o=if mayWake Tryz.prog g=true then o.again w' else o:=by
 unfold woken
 rcases hs with e | e <;> rw [e] <;> cases mayWake Tryz.prog g <;> rfl
theorem MS.woken(hm:MS d cs μ mm a w)(hr:RL 124 d.wg w w')(hs:g'.status=.running∨g'.status=.finished):∃ mm',MS d cs (μ.wake (mayWake Tryz.prog g)) mm' (Go.Conc.woken Tryz.prog g g' w' a) w':=by
 by_cases hb:μ=.blk
 ·subst hb
  rw [woken_eq hs]
  cases hw:mayWake Tryz.prog g with
  | false=>exact⟨mm,hm.rely hr⟩
  | true =>
   obtain⟨gb,g0,rfl,h,k⟩:=hm
   rw [if_pos rfl]
   have h3:=h w (fun x=>x)
   rw [again_blocked h3.1 h3.2.1]
   exact⟨0,gb,fun w₁ h₁=>h w₁ (rl_trans _ _ _ hr h₁),k⟩
 ·have hst:=hm.status hb
  rw [woken_same (by rw [hst];simp) (by rw [hst];simp)]
  refine⟨mm,?_⟩
  have:μ.wake (mayWake Tryz.prog g)=μ:=by
   cases mayWake Tryz.prog g
   ·rfl
   ·cases μ <;> first | rfl | exact absurd rfl hb
  rw [this]
  exact hm.rely hr
theorem get_ms{gs:Array Goroutine}{f:Goroutine→Goroutine}{i j:Nat}{x:Goroutine}(h:j≠i):((gs.map f).setIfInBounds i x)[j]? = (gs[j]?).map f:=by
 rw [Array.getElem?_setIfInBounds_ne (Ne.symm h),Array.getElem?_map]
theorem wid_ne{k i:Nat}(h:i≠k):d.g0+1+i≠d.g0+1+k:=by omega
theorem RI.work(hI:RI d cs h l ws μ mm gs w t)(hk:ws[k]? = some (σ,m))(hg:gs[d.g0+1+k]? = some g)(hst:stepG Tryz.prog false g w=.go g' w' es)(hj:h'.j=h.j)
  (hs:WS d h' (d.g0+1+k) (t++MemOp.ofEvents (d.g0+1+k) g.frame.fn g.frame.place es) σ' m' g' w')
  (hr:∀ id,id≠d.g0+1+k→Rely d id h h' w w' t (MemOp.ofEvents (d.g0+1+k) g.frame.fn g.frame.place es)) (hw:WI d h' w') (ht:TR (d.rg h') w'.heap.size (t++MemOp.ofEvents (d.g0+1+k) g.frame.fn g.frame.place es))
  (hi:Its d h' (ws.set k (σ',m'))) (hgp:Grp d (ws.set k (σ',m')) w' (μ.wake (mayWake Tryz.prog g)).md) :
  ∃ gs' mm',runT Tryz.prog (crowd gs w sl) (d.g0+1+k)=(.next (crowd gs' w' sl),MemOp.ofEvents (d.g0+1+k) g.frame.fn g.frame.place es)∧RI d cs h' l (ws.set k (σ',m')) (μ.wake (mayWake Tryz.prog g)) mm' gs' w' (t++MemOp.ofEvents (d.g0+1+k) g.frame.fn g.frame.place es):=by
 have h0:(d.g0+1+k == 0)=false:=by simp
 have hrun:=runT_crowd_go (sl:=sl) hg (show stepG Tryz.prog (d.g0+1+k == 0) g w=.go g' w' es by rw [h0];exact hst)
 obtain⟨a,ha,hm⟩:=hI.main
 obtain⟨mm',hm'⟩:=hm.woken (g:=g) (w':=w') (fun _=>hw.live) hs.status
 have hlt:d.g0+1+k<gs.size:=(Array.getElem?_eq_some_iff.1 hg).1
 have hu0:∀ op∈MemOp.ofEvents (d.g0+1+k) g.frame.fn g.frame.place es,op.g=d.g0+1+k:=mem_of_g
 refine⟨_,mm',hrun,⟨by simp only [Array.size_setIfInBounds,Array.size_map,hj];exact hI.size,by rw [List.length_set,hj];exact hI.len,hI.ll,fun i q hq=>?_,fun i s hs'=>?_,?_,?_,by rw [MSt.wake_rem,hj];exact hI.nw,hw,ht,hi,hgp⟩⟩
 ·obtain⟨o,h1,h2⟩:=hI.old i q hq
  have hil:i<d.g0:=by have:=(List.getElem?_eq_some_iff.1 hq).1;rw [hI.ll] at this;exact this
  refine⟨o,?_,?_⟩
  ·rw [get_ms (by omega),h1]
   simp only [Option.map_some]
   rcases h2.status with e | e <;> rw [woken_same (by rw [e];simp) (by rw [e];simp)]
  ·rw [Deaf_other t (by omega) _ hu0];exact h2
 ·rcases get_set hk hs' with ⟨rfl,rfl⟩ | ⟨hne,hz⟩
  ·exact⟨g',by simp [hlt],hs⟩
  ·obtain⟨o,h1,h2⟩:=hI.wk i s hz
   refine⟨o,?_,WS.others (hr _ (wid_ne hne)) (by omega) h2⟩
   rw [get_ms (wid_ne hne),h1]
   simp only [Option.map_some]
   rcases h2.status with e | e <;> rw [woken_same (by rw [e];simp) (by rw [e];simp)]
 ·exact⟨_,by rw [get_ms (by omega),ha];rfl,hm'⟩
 ·rw [Deaf_other t (by omega) _ hu0,MSt.wake_df];exact hI.deaf
end
noncomputable def wm(d:Rd)(s:Stg Crz.prog×Nat):Wm Crz.prog:=(s.1.rank d.n,s.1.asO,s.2)
def WOut(d:Rd)(cs:List Frame)(h:Gh)(l:List Nat)(ws:Ws)(μ:MSt)(mm:Nat)(gs:Array Goroutine)(w:World)(t:Trace)(k:Nat)(s:Stg Crz.prog×Nat)(sl:Option (Nat×Nat)):Prop :=
 (∃ s',RI d cs h l (ws.set k s') μ mm gs w t∧Wm.lt Crz.prog (wm d s') (wm d s)) ∨
 ∃ (h':Gh) (s':Stg Crz.prog×Nat) (gs':Array Goroutine) (μ':MSt) (mm':Nat) (w':World) (ops:Trace),runT Tryz.prog (crowd gs w sl) (d.g0+1+k)=(.next (crowd gs' w' sl),ops)∧RI d cs h' l (ws.set k s') μ' mm' gs' w' (t++ops)∧μ'.rem=μ.rem ∧
  (d.n-h'.cnt<d.n-h.cnt∨(d.n-h'.cnt=d.n-h.cnt∧Wm.lt Crz.prog (wm d s') (wm d s)))
section
variable {d:Rd}{cs:List Frame}{h h':Gh}{l:List Nat}{ws:Ws}{μ:MSt}{mm k m m':Nat}{gs:Array Goroutine}{w w':World}{t u:Trace}{g g' a:Goroutine}{σ σ':Stg Crz.prog}{sl:Option (Nat×Nat)}{es:Array Event}
abbrev evW(d:Rd)(k:Nat)(g:Goroutine)(es:Array Event):Trace:=MemOp.ofEvents (d.g0+1+k) g.frame.fn g.frame.place es
theorem cnt3(hk:ws[k]? = some (σ,m))(e1:σ'.al=σ.al)(e2:σ'.b3=σ.b3)(e3:σ'.b4=σ.b4):nA (ws.set k (σ',m'))=nA ws∧n3 (ws.set k (σ',m'))=n3 ws∧n4 (ws.set k (σ',m'))=n4 ws:=by
 have h1:=cnt_set (p:=fun s:Stg Crz.prog×Nat=>s.1.al) (x':=(σ',m')) hk
 have h2:=cnt_set (p:=fun s:Stg Crz.prog×Nat=>s.1.b3) (x':=(σ',m')) hk
 have h3:=cnt_set (p:=fun s:Stg Crz.prog×Nat=>s.1.b4) (x':=(σ',m')) hk
 simp only [e1,e2,e3] at h1 h2 h3
 exact⟨Nat.add_right_cancel h1,Nat.add_right_cancel h2,Nat.add_right_cancel h3⟩
theorem cntN(hk:ws[k]? = some (σ,m)):nA (ws.set k (σ',m'))+σ.al.toNat=nA ws+σ'.al.toNat∧n3 (ws.set k (σ',m'))+σ.b3.toNat=n3 ws+σ'.b3.toNat∧n4 (ws.set k (σ',m'))+σ.b4.toNat=n4 ws+σ'.b4.toNat:=⟨cnt_set hk,cnt_set hk,cnt_set hk⟩
theorem RI.stut(hI:RI d cs h l ws μ mm gs w t)(hk:ws[k]? = some (σ,m))(hg:gs[d.g0+1+k]? = some g)(hs:WS d h (d.g0+1+k) t σ' m' g w)(hi:Its d h (ws.set k (σ',m')))(hgp:Grp d (ws.set k (σ',m')) w μ.md):RI d cs h l (ws.set k (σ',m')) μ mm gs w t:=by
 refine⟨hI.size,by rw [List.length_set];exact hI.len,hI.ll,hI.old,fun i s hs'=>?_,hI.main,hI.deaf,hI.nw,hI.wi,hI.tr,hi,hgp⟩
 rcases get_set hk hs' with ⟨rfl,rfl⟩ | ⟨hne,hz⟩
 ·exact⟨g,hg,hs⟩
 ·exact hI.wk i s hz
theorem RI.cur(hI:RI d cs h l ws μ mm gs w t){s:Stg Crz.prog×Nat}(hk:ws[k]? = some s):(d.rg h).cur (d.g0+1+k):=by
 have:=(List.getElem?_eq_some_iff.1 hk).1
 rw [hI.len] at this
 exact⟨by show d.g0<_;omega,by show _≤d.g0+h.j;omega⟩
theorem ops_ne{id:Nat}(hid:id≠d.g0+1+k):∀ op∈evW d k g es,op.g≠id:=fun op hop=>by rw [mem_of_g op hop];exact fun e=>hid e.symm
theorem RI.say(hI:RI d cs h l ws μ mm gs w t)(hd:d.Ok)(hk:ws[k]? = some (σ,m))(hg:gs[d.g0+1+k]? = some g)(hst:stepG Tryz.prog false g w=.go g' w es)(he:∀ e∈es,Hid d.hd (d.g0+1+k) e)
  (hs:WS d h (d.g0+1+k) (t++evW d k g es) σ' m' g' w) (hi:Its d h (ws.set k (σ',m'))) (hgp:Grp d (ws.set k (σ',m')) w μ.md) (hl:Wm.lt Crz.prog (wm d (σ',m')) (wm d (σ,m))):WOut d cs h l ws μ mm gs w t k (σ,m) sl:=by
 obtain⟨gs',mm',e1,e2⟩:=RI.work (sl:=sl) hI hk hg hst rfl hs (fun id hid=>rely_same rfl (ops_ne hid) rfl) hI.wi (hI.tr.hid (.inr (hI.cur hk)) (fun c hc=>hI.wi.hd_lt hd hc) he) hi (hgp.wake _)
 exact .inr ⟨h,_,gs',_,mm',w,_,e1,e2,MSt.wake_rem _ _,.inr ⟨rfl,hl⟩⟩
theorem RI.setG(hI:RI d cs h l ws μ mm gs w t)(hd:d.Ok)(hk:ws[k]? = some (σ,m))(hg:gs[d.g0+1+k]? = some g){o:Nat}{v:Value}(hst:stepG Tryz.prog false g w=.go g' (w.setCell ⟨d.wg,o,none⟩ v) es)(he:∀ e∈es,Hid d.hd (d.g0+1+k) e)
  (hs:WS d h (d.g0+1+k) (t++evW d k g es) σ' m' g' (w.setCell ⟨d.wg,o,none⟩ v)) (hi:Its d h (ws.set k (σ',m'))) (hgp:Grp d (ws.set k (σ',m')) (w.setCell ⟨d.wg,o,none⟩ v) (μ.wake (mayWake Tryz.prog g)).md) (hl:Wm.lt Crz.prog (wm d (σ',m')) (wm d (σ,m))):WOut d cs h l ws μ mm gs w t k (σ,m) sl:=by
 obtain⟨gs',mm',e1,e2⟩:=RI.work (sl:=sl) hI hk hg hst rfl hs (fun id hid=>rely_set rfl (ops_ne hid) (.inl Rd.hd_wg) fun _=>hgp.live) (hI.wi.setG hd hgp.live) (by rw [set_size];exact hI.tr.hid (.inr (hI.cur hk)) (fun c hc=>hI.wi.hd_lt hd hc) he) hi hgp
 exact .inr ⟨h,_,gs',_,mm',_,_,e1,e2,MSt.wake_rem _ _,.inr ⟨rfl,hl⟩⟩
theorem RI.goes(hI:RI d cs h l ws μ mm gs w t)(hd:d.Ok)(hk:ws[k]? = some (σ,m))(hg:gs[d.g0+1+k]? = some g){Stop:Goroutine→World→Prop}(hgo:GLm d.wg Stop m g w)(keep:∀ m' g',GLm d.wg Stop m' g' w→WS d h (d.g0+1+k) t σ m' g' w)(stop:Stop g w→WOut d cs h l ws μ mm gs w t k (σ,m) sl):WOut d cs h l ws μ mm gs w t k (σ,m) sl:=by
 rcases Goes.cases hgo with hstop | ⟨n',rfl,hstep⟩
 ·exact stop (hstop w fun x=>x)
 ·obtain⟨g',w',es,hst,⟨rfl,rfl⟩,hg'⟩:=hstep w fun x=>x
  obtain⟨c1,c2,c3⟩:=cnt3 (σ':=σ) (m':=n') hk rfl rfl rfl
  exact hI.say (σ':=σ) (m':=n') hd hk hg hst (by simp) (by rw [evW,tnil];exact keep n' g' hg') (hI.it.move hk (.inl rfl) (hI.it.past k (σ,n'+1) hk) id) (hI.gp.same c1 c2 c3 fun _ _ x=>x) (Wm.lt3 (Nat.lt_succ_self _))
theorem said_new(ht:Deaf t (d.g0+1+k)=0):Said d (t++evW d k g #[Go.ConcR.mk (.releaseMerge (stA d.wg))]) (d.g0+1+k):=by
 refine⟨t.size,RelBy.new ht _ _,fun i hi _ a ha=>?_⟩
 obtain⟨x,hx,_⟩:=touch_of ha
 have:=lt_size_of_getElem? hx
 rw [evW,ofEvents_eq] at this
 simp at this
 omega
theorem Said.own(hs:Said d t (d.g0+1+k))(hes:∀ j e,es[j]? = some e→(MemAct.ofEvent e).touch? = none∨((∃ ad wr,e=⟨.cell ad,wr,true⟩)∧0<deafBehind (Deaf t (d.g0+1+k)) (es.extract 0 j)))(hh:∀ e∈es,Hid d.hd (d.g0+1+k) e):Said d (t++evW d k g es) (d.g0+1+k):=by
 obtain⟨r,hr⟩:=hs
 refine⟨r,hr.app (hr.by_.appOwn _ _ _ hes) fun op hop _ a ha=>?_⟩
 obtain⟨e,hm,_,h2⟩:=mO hop
 rw [h2] at ha
 obtain⟨ad,k1,k2,_⟩:=(hh e hm).2 a ha
 exact⟨ad,k1,k2⟩
theorem hid2:∀ e∈(#[rd (stA d.wg),wr (stA d.wg)]:Array Event),Hid d.hd (d.g0+1+k) e:=by
 intro e he
 simp only [List.mem_toArray,List.mem_cons,List.not_mem_nil,or_false] at he
 rcases he with rfl | rfl
 ·exact hid_rd Rd.hd_wg
 ·exact hid_wr Rd.hd_wg
theorem deafs{D:Nat}(hD:0<D){es:Array Event}(h:∀ e∈es,∃ ad wr,e=⟨.cell ad,wr,true⟩):∀ (j:Nat) (e:Event),es[j]? = some e→(MemAct.ofEvent e).touch? = none∨((∃ ad wr,e=⟨.cell ad,wr,true⟩)∧0<deafBehind D (es.extract 0 j)):=by
 intro j e he
 refine .inr ⟨h e (Array.mem_of_getElem? he),?_⟩
 rw [deafBehind_idle]
 ·exact hD
 ·intro x hx
  have hx':x∈es:=by
   obtain⟨l⟩:=es
   simp only [List.extract_toArray,List.mem_toArray,List.extract_eq_take_drop] at hx ⊢
   exact List.mem_of_mem_drop (List.mem_of_mem_take hx)
  obtain⟨ad,wr,rfl⟩:=h x hx'
  exact⟨by simp,by simp⟩
theorem deafSem{ad:Addr}:∀ (j:Nat) (e:Event),(semEvents ad)[j]? = some e→(MemAct.ofEvent e).touch? = none∨((∃ ad wr,e=⟨.cell ad,wr,true⟩)∧0<deafBehind 1 ((semEvents ad).extract 0 j)):=by
 intro j e he
 match j,he with
 | 0,he=>cases he;exact .inl rfl
 | 1,he=>cases he;exact .inr ⟨⟨_,_,rfl⟩,by simp [semEvents,deafBehind]⟩
 | 2,he=>cases he;exact .inr ⟨⟨_,_,rfl⟩,by simp [semEvents,deafBehind]⟩
 | 3,he=>cases he;exact .inl rfl
 | j+4,he=>simp [semEvents] at he
theorem RI.rel(hI:RI d cs h l ws μ mm gs w t)(hd:d.Ok)(hk:ws[k]? = some (.rel,m))(hg:gs[d.g0+1+k]? = some g)(hs:WS d h (d.g0+1+k) t .rel m g w):WOut d cs h l ws μ mm gs w t k (.rel,m) sl:=by
 refine hI.goes hd hk hg hs.1 (fun m' g' q=>⟨q,hs.2⟩) fun hstop=>?_
 obtain⟨_,g',hst,m',hg'⟩:=hstop
 obtain⟨c1,c2,c3⟩:=cnt3 (σ':=.di) (m':=m') hk rfl rfl rfl
 refine hI.say (σ':=.di) (m':=m') hd hk hg hst (fun e he=>?_) ⟨hg',?_,said_new hs.2⟩ (hI.it.move hk (.inl rfl) (fun _=>hI.it.past k _ hk rfl) fun _=>rfl) (hI.gp.same c1 c2 c3 fun _ _ x=>x) (Wm.lt1 (by simp [Stg.rank]))
 ·simp only [List.mem_toArray,List.mem_cons,List.not_mem_nil,or_false] at he
  rw [he];exact hid_rel
 ·rw [evW,Deaf_own,hs.2];rfl
theorem RI.di(hI:RI d cs h l ws μ mm gs w t)(hd:d.Ok)(hk:ws[k]? = some (.di,m))(hg:gs[d.g0+1+k]? = some g)(hs:WS d h (d.g0+1+k) t .di m g w):WOut d cs h l ws μ mm gs w t k (.di,m) sl:=by
 refine hI.goes hd hk hg hs.1 (fun m' g' q=>⟨q,hs.2⟩) fun hstop=>?_
 obtain⟨_,g',hst,m',hg'⟩:=hstop
 obtain⟨c1,c2,c3⟩:=cnt3 (σ':=.d1) (m':=m') hk rfl rfl rfl
 have hh:∀ e∈(#[Go.ConcR.mk .disable]:Array Event),Hid d.hd (d.g0+1+k) e:=fun e he=>by
  simp only [List.mem_toArray,List.mem_cons,List.not_mem_nil,or_false] at he
  rw [he];exact hid_dis
 refine hI.say (σ':=.d1) (m':=m') hd hk hg hst hh ⟨hg',?_,hs.2.2.own (fun j e he=>.inl ?_) hh⟩ (hI.it.move hk (.inl rfl) (fun _=>hI.it.past k _ hk rfl) fun _=>rfl) (hI.gp.same c1 c2 c3 fun _ _ x=>x) (Wm.lt1 (by simp [Stg.rank]))
 ·rw [evW,Deaf_own,hs.2.1];rfl
 ·have:=Array.mem_of_getElem? he
  simp only [List.mem_toArray,List.mem_cons,List.not_mem_nil,or_false] at this
  rw [this];rfl
theorem acc2:∀ e∈(#[rd (stA d.wg),wr (stA d.wg)]:Array Event),∃ ad wr,e=⟨.cell ad,wr,true⟩:=by
 intro e he
 simp only [List.mem_toArray,List.mem_cons,List.not_mem_nil,or_false] at he
 rcases he with rfl | rfl <;> exact⟨_,_,rfl⟩
theorem RI.d1(hI:RI d cs h l ws μ mm gs w t)(hd:d.Ok)(hk:ws[k]? = some (.d1,m))(hg:gs[d.g0+1+k]? = some g)(hs:WS d h (d.g0+1+k) t .d1 m g w):WOut d cs h l ws μ mm gs w t k (.d1,m) sl:=by
 refine hI.goes hd hk hg hs.1 (fun m' g' q=>⟨q,hs.2⟩) fun hstop=>?_
 have hA:0<nA ws:=cnt_pos hk rfl
 have hle:nA ws≤8:=by
  have h1:nA ws≤ws.length:=List.countP_le_length
  have:=hI.len;have:=hI.nw;have:=hd.nw8
  omega
 have hp:=hI.it.past k _ hk rfl
 have key:∀ (v wt:Nat) (σ':Stg Crz.prog),wt≤1→v<2147483647→WgAt 124 d.wg w (((v:Int)+1) * KK+wt) 0→(∀ g',WgAt 124 d.wg (w.setCell (stA d.wg) (.int .u64 (v * KK+wt))) (v * KK+wt) 0→(((v=0∧wt=1)→GL Tryz.prog false 124 d.wg (D2 Tryz.prog 124 d.wg) g' (w.setCell (stA d.wg) (.int .u64 (v * KK+wt))))∧(¬ (v=0∧wt=1)→∃ q,QuitsD Tryz.prog q 1 g')) →
   ∃ m',WS d h (d.g0+1+k) (t++evW d k g #[rd (stA d.wg),wr (stA d.wg)]) σ' m' g' (w.setCell (stA d.wg) (.int .u64 (v * KK+wt)))∧Grp d (ws.set k (σ',m')) (w.setCell (stA d.wg) (.int .u64 (v * KK+wt))) μ.md)→σ'.item=none→σ'.ex d.n=true→σ'.rank d.n<10→WOut d cs h l ws μ mm gs w t k (.d1,m) sl:=by
  intro v wt σ' h1 h2 h3 h4 h5 h6 h7
  obtain⟨g',hst,q⟩:=hstop.2 v wt h1 h2 h3
  obtain⟨m',hs',hgp⟩:=h4 g' (h3.setSt _) q
  exact hI.setG (σ':=σ') (m':=m') hd hk hg hst hid2 hs' (hI.it.move hk (.inl h5) (fun _=>hp) fun _=>h6) (hgp.wake _) (Wm.lt1 h7)
 have dq:∀ (j:Nat) (e:Event),(#[rd (stA d.wg),wr (stA d.wg)]:Array Event)[j]? = some e→(MemAct.ofEvent e).touch? = none∨((∃ ad wr,e=⟨.cell ad,wr,true⟩)∧0<deafBehind (Deaf t (d.g0+1+k)) ((#[rd (stA d.wg),wr (stA d.wg)]:Array Event).extract 0 j)):=deafs (by rw [hs.2.1];exact Nat.one_pos) acc2
 have hD:Deaf (t++evW d k g #[rd (stA d.wg),wr (stA d.wg)]) (d.g0+1+k)=1:=by rw [evW,Deaf_own,hs.2.1];rfl
 have hS:Said d (t++evW d k g #[rd (stA d.wg),wr (stA d.wg)]) (d.g0+1+k):=hs.2.2.own dq hid2
 have cq:∀ m',nA (ws.set k (.quit,m'))+1=nA ws∧n3 (ws.set k (.quit,m'))=n3 ws∧n4 (ws.set k (.quit,m'))=n4 ws:=fun m'=>by
  obtain⟨h1,h2,h3⟩:=cntN (σ':=.quit) (m':=m') hk
  simp only [Stg.al,Stg.b3,Stg.b4,Bool.toNat_true,Bool.toNat_false,Nat.add_zero] at h1 h2 h3
  exact⟨h1,h2,h3⟩
 have cd:∀ m',nA (ws.set k (.d2,m'))+1=nA ws∧n3 (ws.set k (.d2,m'))=n3 ws+1∧n4 (ws.set k (.d2,m'))=n4 ws:=fun m'=>by
  obtain⟨h1,h2,h3⟩:=cntN (σ':=.d2) (m':=m') hk
  simp only [Stg.al,Stg.b3,Stg.b4,Bool.toNat_true,Bool.toNat_false,Nat.add_zero] at h1 h2 h3
  exact⟨h1,h2,h3⟩
 have hgp:=hI.gp
 cases hmd:μ.md with
 | op p =>
  rw [hmd] at hgp
  obtain⟨q3,q4,qw⟩:=hgp
  obtain⟨v,hv⟩:∃ v,nA ws+p=v+1:=⟨nA ws+p-1,by omega⟩
  rw [hv] at qw
  have hp2:p≤1:=by cases μ <;> cases hmd <;> omega
  refine key v 0 .quit (by omega) (by omega) (by simpa using qw) (fun g' hw q=>?_) rfl rfl (by simp [Stg.rank])
  obtain⟨q',hq⟩:=q.2 (by omega)
  obtain⟨c1,c2,c3⟩:=cq q'
  refine⟨q',⟨by rw [hD];exact hq,hS⟩,?_⟩
  rw [hmd]
  refine⟨by rw [c2];exact q3,by rw [c3];exact q4,?_⟩
  have:nA (ws.set k (.quit,q'))+p=v:=by omega
  rw [this];simpa using hw
 | rg b =>
  rw [hmd] at hgp
  rcases hgp with ⟨_,q3,q4,qw⟩ | ⟨q,_⟩ | ⟨q,_⟩ | ⟨_,q,_⟩
  ·obtain⟨v,hv⟩:∃ v,nA ws=v+1:=⟨nA ws-1,by omega⟩
   rw [hv] at qw
   by_cases h0:v=0
   ·refine key v 1 .d2 (by omega) (by omega) (by simpa using qw) (fun g' hw q=>?_) rfl rfl (by simp [Stg.rank])
    obtain⟨m',hm'⟩:=q.1 ⟨h0,rfl⟩
    obtain⟨c1,c2,c3⟩:=cd m'
    refine⟨m',⟨hm',hD,hS⟩,?_⟩
    rw [hmd]
    refine .inr (.inl ⟨by omega,by rw [c2,q3],by rw [c3];exact q4,?_⟩)
    subst h0
    simpa using hw
   ·refine key v 1 .quit (by omega) (by omega) (by simpa using qw) (fun g' hw q=>?_) rfl rfl (by simp [Stg.rank])
    obtain⟨q',hq⟩:=q.2 (by omega)
    obtain⟨c1,c2,c3⟩:=cq q'
    refine⟨q',⟨by rw [hD];exact hq,hS⟩,?_⟩
    rw [hmd]
    have e:nA (ws.set k (.quit,q'))=v:=by omega
    refine .inl ⟨by omega,by rw [c2];exact q3,by rw [c3];exact q4,?_⟩
    rw [e];simpa using hw
  ·omega
  ·omega
  ·omega
 | fin =>
  rw [hmd] at hgp
  have:=hgp.1
  omega
theorem RI.late(hI:RI d cs h l ws μ mm gs w t)(hk:ws[k]? = some (σ,m))(hb:σ.b3=true∨σ.b4=true):(∃ b,μ.md=.rg b)∧nA ws=0∧((σ.b3=true∧n3 ws=1∧n4 ws=0∧WgAt 124 d.wg w 1 0)∨(σ.b4=true∧n3 ws=0∧n4 ws=1∧WgAt 124 d.wg w 0 0)):=by
 have h3:σ.b3=true→0<n3 ws:=fun e=>cnt_pos hk e
 have h4:σ.b4=true→0<n4 ws:=fun e=>cnt_pos hk e
 have hgp:=hI.gp
 cases hmd:μ.md with
 | op p =>
  rw [hmd] at hgp
  obtain⟨q3,q4,qw⟩:=hgp
  rcases hb with hb | hb
  ·have:=h3 hb;omega
  ·have:=h4 hb;omega
 | fin =>
  rw [hmd] at hgp
  obtain⟨_,q3,q4,qw⟩:=hgp
  rcases hb with hb | hb
  ·have:=h3 hb;omega
  ·have:=h4 hb;omega
 | rg b =>
  rw [hmd] at hgp
  refine⟨⟨b,rfl⟩,?_⟩
  rcases hgp with ⟨_,q3,q4,qw⟩ | ⟨q,q3,q4,qw⟩ | ⟨q,q3,q4,qw⟩ | ⟨_,q,q3,q4,qw⟩
  ·rcases hb with hb | hb
   ·have:=h3 hb;omega
   ·have:=h4 hb;omega
  ·rcases hb with hb | hb
   ·exact⟨q,.inl ⟨hb,q3,q4,qw⟩⟩
   ·have:=h4 hb;omega
  ·rcases hb with hb | hb
   ·have:=h3 hb;omega
   ·exact⟨q,.inr ⟨hb,q3,q4,qw⟩⟩
  ·rcases hb with hb | hb
   ·have:=h3 hb;omega
   ·have:=h4 hb;omega
theorem RI.d2(hI:RI d cs h l ws μ mm gs w t)(hd:d.Ok)(hk:ws[k]? = some (.d2,m))(hg:gs[d.g0+1+k]? = some g)(hs:WS d h (d.g0+1+k) t .d2 m g w):WOut d cs h l ws μ mm gs w t k (.d2,m) sl:=by
 refine hI.goes hd hk hg hs.1 (fun m' g' q=>⟨q,hs.2⟩) fun hstop=>?_
 obtain⟨_,_,⟨_,q3,q4,qw⟩ | ⟨q,_⟩⟩:=hI.late hk (.inl rfl)
 ·obtain⟨g',hst,m',hg'⟩:=hstop.2 qw
  have hh:∀ e∈(#[rd (stA d.wg)]:Array Event),Hid d.hd (d.g0+1+k) e:=fun e he=>by
   simp only [List.mem_toArray,List.mem_cons,List.not_mem_nil,or_false] at he
   rw [he];exact hid_rd Rd.hd_wg
  obtain⟨c1,c2,c3⟩:=cnt3 (σ':=.d3) (m':=m') hk rfl rfl rfl
  refine hI.say (σ':=.d3) (m':=m') hd hk hg hst hh ⟨hg',?_,hs.2.2.own (deafs (by rw [hs.2.1];exact Nat.one_pos) fun e he=>?_) hh⟩ (hI.it.move hk (.inl rfl) (fun _=>hI.it.past k _ hk rfl) fun _=>rfl) (hI.gp.same c1 c2 c3 fun _ _ x=>x) (Wm.lt1 (by simp [Stg.rank]))
  ·rw [evW,Deaf_own,hs.2.1];rfl
  ·simp only [List.mem_toArray,List.mem_cons,List.not_mem_nil,or_false] at he
   exact⟨_,_,he⟩
 ·cases q
theorem RI.d3(hI:RI d cs h l ws μ mm gs w t)(hd:d.Ok)(hk:ws[k]? = some (.d3,m))(hg:gs[d.g0+1+k]? = some g)(hs:WS d h (d.g0+1+k) t .d3 m g w):WOut d cs h l ws μ mm gs w t k (.d3,m) sl:=by
 refine hI.goes hd hk hg hs.1 (fun m' g' q=>⟨q,hs.2⟩) fun hstop=>?_
 obtain⟨⟨b,hmd⟩,qa,⟨_,q3,q4,qw⟩ | ⟨q,_⟩⟩:=hI.late hk (.inl rfl)
 ·obtain⟨g',hst,m',hg'⟩:=hstop.2 qw
  have hh:∀ e∈(#[wr (stA d.wg)]:Array Event),Hid d.hd (d.g0+1+k) e:=fun e he=>by
   simp only [List.mem_toArray,List.mem_cons,List.not_mem_nil,or_false] at he
   rw [he];exact hid_wr Rd.hd_wg
  refine hI.setG (σ':=.d4) (m':=m') hd hk hg hst hh ⟨hg',?_,hs.2.2.own (deafs (by rw [hs.2.1];exact Nat.one_pos) fun e he=>?_) hh⟩ (hI.it.move hk (.inl rfl) (fun _=>hI.it.past k _ hk rfl) fun _=>rfl) (Grp.wake ?_ _) (Wm.lt1 (by simp [Stg.rank]))
  ·rw [evW,Deaf_own,hs.2.1];rfl
  ·simp only [List.mem_toArray,List.mem_cons,List.not_mem_nil,or_false] at he
   exact⟨_,_,he⟩
  ·rw [hmd]
   obtain⟨h1,h2,h3⟩:=cntN (σ':=.d4) (m':=m') hk
   simp only [Stg.al,Stg.b3,Stg.b4,Bool.toNat_true,Bool.toNat_false,Nat.add_zero] at h1 h2 h3
   refine .inr (.inr (.inl ⟨?_,?_,?_,qw.setSt _⟩))
   ·omega
   ·omega
   ·omega
 ·cases q
theorem RI.d4(hI:RI d cs h l ws μ mm gs w t)(hd:d.Ok)(hk:ws[k]? = some (.d4,m))(hg:gs[d.g0+1+k]? = some g)(hs:WS d h (d.g0+1+k) t .d4 m g w):WOut d cs h l ws μ mm gs w t k (.d4,m) sl:=by
 refine hI.goes hd hk hg hs.1 (fun m' g' q=>⟨q,hs.2⟩) fun hstop=>?_
 obtain⟨⟨b,hmd⟩,qa,⟨q,_⟩ | ⟨_,q3,q4,qw⟩⟩:=hI.late hk (.inr rfl)
 ·cases q
 ·obtain⟨g',hst,m',hg'⟩:=hstop.2.2 qw
  have hh:∀ e∈semEvents (smA d.wg),Hid d.hd (d.g0+1+k) e:=hid_sem Rd.hd_wg
  refine hI.setG (σ':=.quit) (m':=m') hd hk hg hst hh ⟨?_,hs.2.2.own (by rw [hs.2.1];exact deafSem) hh⟩ (hI.it.move hk (.inl rfl) (fun _=>hI.it.past k _ hk rfl) fun _=>rfl) ?_ (Wm.lt1 (by simp [Stg.rank]))
  ·rw [evW,Deaf_own,hs.2.1];exact hg'
  ·rw [hstop.2.1]
   have hmd2:(μ.wake true).md=.rg true:=by cases μ <;> first | rfl | cases hmd
   rw [hmd2]
   obtain⟨h1,h2,h3⟩:=cntN (σ':=.quit) (m':=m') hk
   simp only [Stg.al,Stg.b3,Stg.b4,Bool.toNat_true,Bool.toNat_false,Nat.add_zero] at h1 h2 h3
   refine .inr (.inr (.inr ⟨rfl,?_,?_,?_,qw.setSm _⟩))
   ·omega
   ·omega
   ·omega
theorem RI.quit(hI:RI d cs h l ws μ mm gs w t)(hd:d.Ok)(hk:ws[k]? = some (.quit,m))(hg:gs[d.g0+1+k]? = some g)(hrun:g.status=.running)(hs:WS d h (d.g0+1+k) t .quit m g w):WOut d cs h l ws μ mm gs w t k (.quit,m) sl:=by
 obtain⟨hq,hS⟩:=hs
 cases m with
 | zero=>have:=hq.1;rw [hrun] at this;cases this
 | succ m =>
  rcases hq with ⟨e,_⟩ | ⟨_,g',es,he,hst,hq'⟩
  ·rw [hrun] at e;cases e
  ·have ht0:∀ e∈es,(MemAct.ofEvent e).touch? = none∧∀ a,MemAct.ofEvent e≠.mark (.release a):=by
    intro e hm
    have hm':=he e hm
    obtain⟨loc,wr,sy⟩:=e
    unfold Event.mute at hm'
    split at hm'
    ·rename_i q;cases q;exact⟨rfl,fun a q=>by cases q⟩
    ·rename_i q;cases q;exact⟨rfl,fun a q=>by cases q⟩
    ·cases hm'
   have hh:∀ e∈es,Hid d.hd (d.g0+1+k) e:=fun e hm=>⟨(ht0 e hm).2,fun b hb=>by rw [(ht0 e hm).1] at hb;cases hb⟩
   obtain⟨c1,c2,c3⟩:=cnt3 (σ':=.quit) (m':=m) hk rfl rfl rfl
   refine hI.say (σ':=.quit) (m':=m) hd hk hg (hst w) hh ⟨?_,hS.own (fun j e q=>.inl (ht0 e (Array.mem_of_getElem? q)).1) hh⟩ (hI.it.move hk (.inl rfl) (fun _=>hI.it.past k _ hk rfl) fun _=>rfl) (hI.gp.same c1 c2 c3 fun _ _ x=>x) (Wm.lt3 (Nat.lt_succ_self _))
   rw [evW,Deaf_own];exact hq'
end
end Go.Proofs.YtdoibgmmijhlfaaGreat.Sm
namespace Go.Proofs.YtdoibgmmijhlfaaGreat.Sm
open Go Go.Conc Go.ConcN Go.ConcN.Gen Go.RowKit Go.Conc.Lib Go.ConcR.Gen Go.Proofs.YtdoibgmmijhlfaaGreat.Wgk
open Go.ConcR (KK wgBlock WgAt stA smA rd wr DC0 again_blocked)
set_option linter.unusedVariables false
section
variable {d:Rd}{cs:List Frame}{h h':Gh}{l:List Nat}{ws:Ws}{μ:MSt}{mm k m m':Nat}{gs:Array Goroutine}{w w':World}{t u:Trace}{g g' a:Goroutine}{σ σ':Stg Crz.prog}{sl:Option (Nat×Nat)}{es:Array Event}
theorem TR.evs{γ:RG}{H H':Nat}{g:Nat}{fn:FuncId}{pos:String}(h:TR γ H t)(hc:g=0∨γ.cur g)(hH:H≤H')(he:∀ e∈es,(∀ a,MemAct.ofEvent e≠.mark (.release a))∧∀ b,(MemAct.ofEvent e).touch? = some b→γ.may g b∧∀ ad,b.loc=.cell ad→ad.block<H'):TR γ H' (t++MemOp.ofEvents g fn pos es):=by
 refine h.app hc hH (fun op hop=>(mO hop).choose_spec.2.1) (fun op hop b hb=>?_) (fun op hop a q=>?_) (fun op hop b ad hb hla=>?_)
 ·obtain⟨e,hm,_,h2⟩:=mO hop
  rw [h2] at hb
  exact((he e hm).2 b hb).1
 ·obtain⟨e,hm,_,h2⟩:=mO hop
  rw [h2] at q
  exact(he e hm).1 a q
 ·obtain⟨e,hm,_,h2⟩:=mO hop
  rw [h2] at hb
  exact((he e hm).2 b hb).2 ad hla
theorem wgat_oth{b o:Nat}{v:Value}(hb:b≠d.wg):∀ st sm,WgAt 124 d.wg w st sm→WgAt 124 d.wg (w.setCell ⟨b,o,none⟩ v) st sm:=fun st sm hg=>by
 unfold Go.ConcR.WgAt at *;rw [set_oth (Ne.symm hb)];exact hg
theorem RI.add(hI:RI d cs h l ws μ mm gs w t)(hd:d.Ok)(hk:ws[k]? = some (.add,m))(hg:gs[d.g0+1+k]? = some g)(hs:WS d h (d.g0+1+k) t .add m g w):WOut d cs h l ws μ mm gs w t k (.add,m) sl:=by
 refine hI.goes hd hk hg hs.1 (fun m' g' q=>⟨q,hs.2⟩) fun hstop=>?_
 have hkl:k<h.j:=by have:=(List.getElem?_eq_some_iff.1 hk).1;rw [hI.len] at this;exact this
 have hb:h.cnt<4611686018427387904:=by
  have h1:=hI.it.bound
  have h2:nE d.n ws≤ws.length:=List.countP_le_length
  have h3:=hI.len;have h4:=hI.nw;have h5:=hd.nw8;have h6:=hd.n_le
  omega
 obtain⟨g',hst,hgl⟩:=hstop.2 (h.cnt:Int) (by omega) (by omega) hI.wi.cell_x hI.wi.thaw_x
 have hw':=hI.wi.claim hd (d.g0+1+k)
 obtain⟨m',hg'⟩:=hgl hw'.live
 obtain⟨c1,c2,c3⟩:=cnt3 (σ':=.rdn h.cnt) (m':=m') hk rfl rfl rfl
 have hcl:(d.rg h).cl h.cnt=0:=hI.it.clz _ (Nat.le_refl _)
 have htr:TR (d.rg (h.claim (d.g0+1+k))) w.heap.size t:=hI.tr.claim (g:=d.g0+1+k) hcl
 have hh:∀ e∈(#[rd ⟨d.nx,0,none⟩,wr ⟨d.nx,0,none⟩]:Array Event),Hid d.hd (d.g0+1+k) e:=fun e he=>by
  simp only [List.mem_toArray,List.mem_cons,List.not_mem_nil,or_false] at he
  rcases he with rfl | rfl
  ·exact hid_rd Rd.hd_nx
  ·exact hid_wr Rd.hd_nx
 obtain⟨gs',mm',e1,e2⟩:=RI.work (sl:=sl) (h':=h.claim (d.g0+1+k)) (σ':=.rdn h.cnt) (m':=m') hI hk hg hst rfl ⟨hg',by rw [Deaf_own,hs.2];rfl⟩ (fun id hid=>rely_set rfl (ops_ne hid) (.inl Rd.hd_nx) fun q=>live_oth q (by simp [Rd.nx,Rd.wg])) hw'
  (by rw [set_size];exact htr.hid (.inr (hI.cur hk)) (fun c hc=>hI.wi.hd_lt hd hc) hh) (hI.it.claim hk rfl rfl hkl) ((hI.gp.same c1 c2 c3 (wgat_oth (by simp [Rd.nx,Rd.wg]))).wake _)
 refine .inr ⟨_,_,gs',_,mm',_,_,e1,e2,MSt.wake_rem _ _,?_⟩
 show d.n-(h.cnt+1)<d.n-h.cnt∨_
 by_cases hc:d.n≤h.cnt
 ·refine .inr ⟨by show d.n-(h.cnt+1)=_;omega,Wm.lt1 ?_⟩
  simp [Stg.rank,hc]
 ·left;omega
theorem read_ev{b:Nat}(hd:d.Ok)(hI:WI d h w)(hb:d.hd b=false)(h4:b<d.bn+4)(hx:b≠d.X):∀ e∈(#[⟨.cell ⟨b,0,none⟩,false,false⟩]:Array Event),(∀ a,MemAct.ofEvent e≠.mark (.release a))∧∀ x,(MemAct.ofEvent e).touch? = some x→(d.rg h).may (d.g0+1+k) x∧∀ ad,x.loc=.cell ad→ad.block<w.heap.size:=by
 intro e he
 simp only [List.mem_toArray,List.mem_cons,List.not_mem_nil,or_false] at he
 subst he
 refine⟨fun a e=>(by cases e),fun x hx'=>?_⟩
 cases hx'
 refine⟨?_,fun ad q=>by cases q;have:=hI.size;show b<_;omega⟩
 unfold RG.may
 exact .inr ⟨hb,.inr ⟨hx,.inl ⟨hI.ow0 b h4,rfl⟩⟩⟩
theorem RI.look(hI:RI d cs h l ws μ mm gs w t)(hd:d.Ok)(hk:ws[k]? = some (σ,m))(hg:gs[d.g0+1+k]? = some g){b:Nat}(hb:d.hd b=false)(h4:b<d.bn+4)(hx:b≠d.X)(hst:stepG Tryz.prog false g w=.go g' w #[⟨.cell ⟨b,0,none⟩,false,false⟩])
  (hs:WS d h (d.g0+1+k) (t++evW d k g #[⟨.cell ⟨b,0,none⟩,false,false⟩]) σ' m' g' w) (hi:Its d h (ws.set k (σ',m'))) (hgp:Grp d (ws.set k (σ',m')) w μ.md) (hl:Wm.lt Crz.prog (wm d (σ',m')) (wm d (σ,m))):WOut d cs h l ws μ mm gs w t k (σ,m) sl:=by
 obtain⟨gs',mm',e1,e2⟩:=RI.work (sl:=sl) hI hk hg hst rfl hs (fun id hid=>rely_same rfl (ops_ne hid) rfl) hI.wi (hI.tr.evs (.inr (hI.cur hk)) (Nat.le_refl _) (read_ev hd hI.wi hb h4 hx)) hi (hgp.wake _)
 exact .inr ⟨h,_,gs',_,mm',w,_,e1,e2,MSt.wake_rem _ _,.inr ⟨rfl,hl⟩⟩
theorem RI.rdn(hI:RI d cs h l ws μ mm gs w t)(hd:d.Ok){c:Nat}(hk:ws[k]? = some (.rdn c,m))(hg:gs[d.g0+1+k]? = some g)(hs:WS d h (d.g0+1+k) t (.rdn c) m g w):WOut d cs h l ws μ mm gs w t k (.rdn c,m) sl:=by
 refine hI.goes hd hk hg hs.1 (fun m' g' q=>⟨q,hs.2⟩) fun hstop=>?_
 obtain⟨g',hst,h1,h2⟩:=hstop.2 hI.wi.cell_n
 obtain⟨_,_,hc⟩:=hI.it.mine k _ c hk rfl
 have hX:=hd.xlt
 by_cases hlt:c<d.n
 ·obtain⟨m',hg'⟩:=h1 (by omega)
  obtain⟨c1,c2,c3⟩:=cnt3 (σ':=.rdf c) (m':=m') hk rfl rfl rfl
  refine hI.look (σ':=.rdf c) (m':=m') hd hk hg hd.hd_bn (by omega) (by omega) hst ⟨hg',?_,hlt⟩ (hI.it.move hk (.inl rfl) (fun q=>by cases q) fun q=>?_) (hI.gp.same c1 c2 c3 fun _ _ x=>x) (Wm.lt1 ?_)
  ·rw [evW,Deaf_own,hs.2];rfl
  ·have:d.n≤c:=by simpa [Stg.ex] using q
   omega
  ·simp [Stg.rank,Nat.not_le.2 hlt]
 ·obtain⟨m',hg'⟩:=h2 (by omega)
  obtain⟨c1,c2,c3⟩:=cnt3 (σ':=.rel) (m':=m') hk rfl rfl rfl
  refine hI.look (σ':=.rel) (m':=m') hd hk hg hd.hd_bn (by omega) (by omega) hst ⟨hg',?_⟩ (hI.it.move hk (.inr ⟨rfl,fun c' q=>?_⟩) (fun q=>by omega) fun q=>rfl) (hI.gp.same c1 c2 c3 fun _ _ x=>x) (Wm.lt1 ?_)
  ·rw [evW,Deaf_own,hs.2];rfl
  ·have:c=c':=by simpa [Stg.item] using q
   omega
  ·simp [Stg.rank,Nat.not_lt.1 hlt]
theorem RI.rdf(hI:RI d cs h l ws μ mm gs w t)(hd:d.Ok){c:Nat}(hk:ws[k]? = some (.rdf c,m))(hg:gs[d.g0+1+k]? = some g)(hs:WS d h (d.g0+1+k) t (.rdf c) m g w):WOut d cs h l ws μ mm gs w t k (.rdf c,m) sl:=by
 refine hI.goes hd hk hg hs.1 (fun m' g' q=>⟨q,hs.2⟩) fun hstop=>?_
 obtain⟨g',hst,m',hg'⟩:=hstop.2 hI.wi.cell_f
 have hX:=hd.xlt
 obtain⟨c1,c2,c3⟩:=cnt3 (σ':=.cal c) (m':=m') hk rfl rfl rfl
 refine hI.look (σ':=.cal c) (m':=m') hd hk hg hd.hd_bf (by simp only [Rd.bn,Rd.bf];omega) (by simp only [Rd.bn,Rd.bf] at *;omega) hst ⟨hg',?_,hs.2.2⟩ (hI.it.move hk (.inl rfl) (fun q=>by cases q) fun q=>by cases q) (hI.gp.same c1 c2 c3 fun _ _ x=>x) (Wm.lt1 (by simp [Stg.rank]))
 rw [evW,Deaf_own,hs.2.1];rfl
theorem RI.cal(hI:RI d cs h l ws μ mm gs w t)(hd:d.Ok){c:Nat}(hk:ws[k]? = some (.cal c,m))(hg:gs[d.g0+1+k]? = some g)(hs:WS d h (d.g0+1+k) t (.cal c) m g w):WOut d cs h l ws μ mm gs w t k (.cal c,m) sl:=by
 refine hI.goes hd hk hg hs.1 (fun m' g' q=>⟨q,hs.2⟩) fun hstop=>?_
 obtain⟨c0,hA,rfl⟩:=hstop
 have hst:=callStep (w:=w) (caps:=d.caps') hA
 obtain⟨us,e0,z0,hlo⟩:=hd.lo
 have hX:=hd.xlt
 have he:d.eX=e0:=by
  obtain⟨o,o',q1,q2,q3⟩:=hd.wr.objs _ _ hd.ox
  obtain⟨ys,q4⟩:=hd.xe
  rw [hlo] at q1;cases q1
  rw [q4] at q2;cases q2
  cases q3
  rfl
 have hcx:∀ b c',d.ρ.rel b c'→b≠d.O→c'≠d.X:=fun b c' hr hb e=>hb (d.ρ.inj _ _ _ (e ▸ hr) hd.ox)
 have q1:∀ b c',d.ρ.rel b c'→b≠d.O→w.heap[c']? = d.wE.heap[c']?:=fun b c' hr hb=>hI.wi.old c' (hd.wr.lt hr) (hcx b c' hr hb)
 have q2:∀ c',d.ρ.rel d.O c'→∃ us e z ys z',d.wl.heap[d.O]? = some (.cells us e z)∧w.heap[c']? = some (.cells ys e z'):=fun c' hr=>by
  have:c'=d.X:=d.ρ.fn _ _ _ hr hd.ox
  subst this
  exact⟨us,e0,z0,_,d.zX,hlo,by rw [← he];exact hI.wi.x⟩
 have q3:RW d.ρ (inF famM) (#[.int .i64 c]++d.caps) (#[.int .i64 c]++d.caps'):=(RW.one (.int _ _)).append hd.caps
 have q4:∀ w,¬ d.Rw c .outgrown w:=fun w q=>by unfold Rd.Rw at q;cases q
 have q5:=hd.calls c hs.2.2
 obtain⟨Rw,hRw⟩:∃ R,d.Rw c=R:=⟨_,rfl⟩
 rw [hRw] at q4 q5
 generalize (#[.int .i64 c]++d.caps:Array Value)=xs at q3 q5
 obtain⟨hC,hB⟩:=run_begins (wE:=d.wE) hd.wr q1 q2 q3 q5 q4
 rw [← hRw] at hC
 have hsw:(⟨Frame.enter Crz.prog (kf d.out) xs .normal,[],iceW d.wl (· == d.O)⟩:LS).w=iceW d.wl (· == d.O):=rfl
 generalize (⟨Frame.enter Crz.prog (kf d.out) xs .normal,[],iceW d.wl (· == d.O)⟩:LS)=s0 at hC hB hsw
 generalize Frame.enter Tryz.prog (kf d.out) (#[.int .i64 c]++d.caps') .normal=f0 at hC hB hst
 have hacc:Acc (Nx Crz.prog) s0:=LW.acc ⟨hC.good,hC.will⟩
 obtain⟨c1,c2,c3⟩:=cnt3 (σ':=.run c ⟨_,hacc⟩) (m':=0) hk rfl rfl rfl
 refine hI.say (σ':=.run c ⟨_,hacc⟩) (m':=0) hd hk hg hst (by simp) ⟨⟨d.ρ.cast,f0,[],c0,rfl,hC,hB,⟨fun b c' hr=>?_,fun b hr=>?_,fun c' o q=>absurd q (by rw [hsw];exact ice_mayWrite)⟩,fun c' hr=>d.ρ.fn _ _ _ hr hd.ox,hd.ox,hA⟩,?_,hs.2.2⟩ (hI.it.move hk (.inl rfl) (fun q=>by cases q) fun q=>by cases q) (hI.gp.same c1 c2 c3 fun _ _ x=>x) (Wm.lt1 (by simp [Stg.rank]))
 ·have hlt:c'<d.bn:=hd.wr.lt hr
  exact⟨(hd.hd_old hlt).trans (hd.vis _ _ hr),.inl (hI.wi.ow0 c' (by omega))⟩
 ·have:b=d.O:=d.ρ.inj _ _ _ hr hd.ox
  subst this
  exact⟨e0,z0,by show s0.w.heap[d.O]? = _;rw [hsw,ice_get,hlo];simp [iceO]⟩
 ·rw [evW,tnil];exact hs.2.1
end
end Go.Proofs.YtdoibgmmijhlfaaGreat.Sm
namespace Go.Proofs.YtdoibgmmijhlfaaGreat.Sm
open Go Go.Conc Go.ConcN Go.ConcN.Gen Go.RowKit Go.Conc.Lib Go.ConcR.Gen Go.Proofs.YtdoibgmmijhlfaaGreat.Wgk
open Go.ConcR (KK wgBlock WgAt stA smA rd wr DC0 again_blocked)
set_option linter.unusedVariables false
section
variable {d:Rd}{cs:List Frame}{h h':Gh}{l:List Nat}{ws:Ws}{μ:MSt}{mm k m m':Nat}{gs:Array Goroutine}{w w':World}{t u:Trace}{g g':Goroutine}{σ σ':Stg Crz.prog}{sl:Option (Nat×Nat)}{es:Array Event}
theorem WRel.heap{G:Cx}{ρ:Ren G}{F:FuncId→Prop}{w v w':World}(h:WRel ρ F w w')(e:v.heap=w.heap):WRel ρ F v w':=⟨fun b c hr=>by rw [e];exact h.objs b c hr,by rw [e];exact h.base⟩
theorem Wv.heap{G:Cx}{γ:RG}{k:Nat}{ρ:Ren G}{w v:World}(h:Wv γ k ρ w)(e:v.heap=w.heap):Wv γ k ρ v:=⟨h.rng,fun b hr=>by rw [e];exact h.xr b hr,fun c o hm=>h.mw c o (by unfold MayWrite at *;rw [e] at hm;exact hm)⟩
theorem dead_pa(out:Bool):deadA (kf out) (pa out)=false:=by cases out <;> decide
theorem dead_pv(out:Bool):deadA (kf out) (pv out)=false:=by cases out <;> decide
theorem RI.run(hI:RI d cs h l ws μ mm gs w t)(hd:d.Ok){c:Nat}{a:AS Crz.prog}(hk:ws[k]? = some (.run c a,m))(hg:gs[d.g0+1+k]? = some g)(hs:WS d h (d.g0+1+k) t (.run c a) m g w):WOut d cs h l ws μ mm gs w t k (.run c a,m) sl:=by
 obtain⟨s,hs0⟩:=a
 obtain⟨⟨ρk,fr',cs',c0f,rfl,hC,hB,hv,hO,hOX,hA⟩,hdf,hcn⟩:=hs
 replace hC:CoW (d.Rw c) ρk s fr' cs' w:=hC
 replace hB:Bq d.out s fr' cs':=hB
 replace hv:Wv (d.rg h) (d.g0+1+k) ρk s.w:=hv
 rcases work_step (fun e w q=>⟨_,q⟩) hC hB with ⟨σr,s1,fr1',cs1',u',fs,w1,hst,hC1,hn,hB1,hcase⟩ | ⟨ts,ts',h1,h2,rfl,rfl,ht⟩
 ·have hacc:Acc (Nx Crz.prog) s1:=LW.acc ⟨hC1.good,hC1.will⟩
  have hst1:=hst false [c0f,bot]
  have hlt:AS.lt Crz.prog ⟨s1,hacc⟩ ⟨s,hs0⟩:=hn
  obtain⟨c1,c2,c3⟩:=cnt3 (σ':=.run c ⟨s1,hacc⟩) (m':=0) hk rfl rfl rfl
  have hit:Its d h (ws.set k (.run c ⟨s1,hacc⟩,0)):=hI.it.move hk (.inl rfl) (fun q=>by cases q) fun q=>by cases q
  rcases hcase with ⟨rfl,rfl,rfl,he⟩ | ⟨hAf,he⟩
  ·exact hI.say (σ':=.run c ⟨s1,hacc⟩) (m':=0) hd hk hg hst1 (by simp) ⟨⟨_,_,_,c0f,rfl,hC1,hB1,hv.heap (by rw [he]),hO,hOX,hA⟩,by rw [evW,tnil];exact hdf,hcn⟩ hit (hI.gp.same c1 c2 c3 fun _ _ x=>x) (Wm.lt2 hlt)
  ·have hv1:Wv (d.rg h) (d.g0+1+k) ρk w1:=hv.heap he
   have hW1:WRel ρk (inF famM) w1 w:=hC.wr.heap he
   have hsz:=hI.wi.size
   have hX:=hd.xlt
   have hown:=hv1.own hW1 hAf (by show d.X<_;omega) fun c hc=>hI.wi.hd_lt hd hc
   have honly:∀ c,c<w.heap.size→h.ow c≠d.g0+1+k→u'.heap[c]? = w.heap[c]?:=fun c hc hne=>hv1.only hAf hc hne
   have hcur:=hI.cur hk
   obtain⟨gs',mm',e1,e2⟩:=RI.work (sl:=sl) (h':=h.take w.heap.size (d.g0+1+k)) (σ':=.run c ⟨s1,hacc⟩) (m':=0) hI hk hg hst1 rfl
    ⟨⟨_,_,_,c0f,rfl,hC1,hB1,hown,fun c' hr=>σr.fn _ _ _ hr (hAf.le _ _ hOX),hAf.le _ _ hOX,hA⟩,by rw [Deaf_own,hdf];exact deafBehind_idle (fun e he=>evok_loud (hAf.evs e he)) 0,hcn⟩
    (fun id hid=>rely_run hI.wi hd (ops_ne hid) hid (by omega) honly) (hI.wi.run hd (by omega) hAf.comp honly)
    ((hI.tr.take (d.g0+1+k)).step hcur hAf.comp.size hAf.evs (fun b c hr=>hAf.wrel.lt hr) hown) (hit.take hcur.2) ((hI.gp.same c1 c2 c3 fun st sm x=>(honly d.wg (by simp only [Rd.bn,Rd.wg] at *;omega) (by rw [hI.wi.ow0 d.wg (by simp only [Rd.bn,Rd.wg];omega)];omega)).trans x).wake _)
   exact .inr ⟨_,_,gs',_,mm',_,_,e1,e2,MSt.wake_rem _ _,.inr ⟨rfl,Wm.lt2 hlt⟩⟩
 ·obtain⟨fr,csl,wl⟩:=s
  replace h1:fr=_:=h1
  replace h2:csl=_:=h2
  subst h1;subst h2
  have hL:LWc (d.Rw c) ⟨fr0 (kf d.out) ts [.inRegion (oO d.out) [ix d.out]] .run,[],wl⟩:=⟨hC.good,hC.will⟩
  obtain⟨va,vv⟩:=put_vals (fun e w q=>q) hL
  have ra:=ht.getD (pa d.out) (dead_pa d.out) (VRel.undef (ρ:=ρk) (F:=inF famM))
  have rv:=ht.getD (pv d.out) (dead_pv d.out) (VRel.undef (ρ:=ρk) (F:=inF famM))
  rw [va] at ra
  rw [vv] at rv
  have ha:ts'.getD (pa d.out) undef=.pointer (some ⟨d.X,d.off c,none⟩):=by
   generalize ts'.getD (pa d.out) undef=y at ra
   cases ra with
   | @ptr _ b' hb =>
    obtain⟨B,o,sp⟩:=b'
    obtain⟨k1,k2,k3⟩:=hb
    simp only at k1 k2 k3
    subst k2;subst k3
    rw [hO _ k1]
  have hvv:ts'.getD (pv d.out) undef=.int .i64 (d.c c):=by
   generalize ts'.getD (pv d.out) undef=y at rv
   cases rv
   rfl
  obtain⟨m',hp⟩:=putWalk (c0f:=c0f) (out:=d.out) ha hvv hI.wi.live
  obtain⟨c1,c2,c3⟩:=cnt3 (σ':=.put c) (m':=m') hk rfl rfl rfl
  exact .inl ⟨(.put c,m'),hI.stut hk hg ⟨⟨c0f,hp,hA⟩,hdf,hcn⟩ (hI.it.move hk (.inl rfl) (fun q=>by cases q) fun q=>by cases q) (hI.gp.same c1 c2 c3 fun _ _ x=>x),Wm.lt1 (by simp [Stg.rank])⟩
theorem RI.put(hI:RI d cs h l ws μ mm gs w t)(hd:d.Ok){c:Nat}(hk:ws[k]? = some (.put c,m))(hg:gs[d.g0+1+k]? = some g)(hs:WS d h (d.g0+1+k) t (.put c) m g w):WOut d cs h l ws μ mm gs w t k (.put c,m) sl:=by
 obtain⟨⟨c0f,hgo,hA⟩,hdf,hcn⟩:=hs
 refine hI.goes hd hk hg hgo (fun m' g' q=>⟨⟨c0f,q,hA⟩,hdf,hcn⟩) fun hstop=>?_
 obtain⟨m1,m2,m3⟩:=hI.it.mine k _ c hk rfl
 have hX:=hd.xlt
 have hsz:=hI.wi.size
 have hxw:d.X≠d.wg:=by simp only [Rd.bn,Rd.wg] at *;omega
 have fin:∀ {g':Goroutine} {v:Value} {es:Array Event},stepG Tryz.prog false g w=.go g' (w.setCell ⟨d.X,d.off c,none⟩ v) es→(WgLive 124 d.wg (w.setCell ⟨d.X,d.off c,none⟩ v)→GL Tryz.prog false 124 d.wg (Back (G (c0f.finish (.tuple #[])) [bot])) g' (w.setCell ⟨d.X,d.off c,none⟩ v)) →
   (d.xrow h.dn).setIfInBounds (d.off c) v=d.xrow (upd h.dn c)→(∀ e∈es,e.loc=.cell ⟨d.X,d.off c,none⟩∧((d.out=true∧e.sync=false)∨(d.out=false∧e.sync=true)))→WOut d cs h l ws μ mm gs w t k (.put c,m) sl:=by
  intro g' v es hst hgl hx hes
  obtain⟨m',hg'⟩:=hgl (live_oth hI.wi.live hxw)
  obtain⟨c1,c2,c3⟩:=cnt3 (σ':=.aft c) (m':=m') hk rfl rfl rfl
  obtain⟨gs',mm',e1,e2⟩:=RI.work (sl:=sl) (h':=h.put c) (σ':=.aft c) (m':=m') hI hk hg hst rfl
   ⟨⟨c0f,hg',hA⟩,by
    rw [Deaf_own,hdf]
    refine deafBehind_idle (fun e he=>?_) 0
    rw [(hes e he).1]
    exact⟨by simp,by simp⟩⟩
   (fun id hid=>rely_set rfl (ops_ne hid) (.inr rfl) fun q=>live_oth q hxw) (hI.wi.put hd hx)
   (by
    have htr:TR (d.rg (h.put c)) w.heap.size t:=hI.tr
    rw [set_size]
    refine htr.evs (.inr (hI.cur hk)) (Nat.le_refl _) fun e he=>?_
    obtain⟨loc,wr',sy⟩:=e
    obtain⟨k1,k2⟩:=hes _ he
    simp only at k1 k2
    subst k1
    refine⟨fun a q=>(by cases wr' <;> cases sy <;> cases q),fun b hb=>?_⟩
    have hb':b=⟨.cell ⟨d.X,d.off c,none⟩,wr',if sy then .atomic else .plain⟩:=by cases wr' <;> cases sy <;> cases hb <;> rfl
    subst hb'
    refine⟨?_,fun ad q=>by cases q;show d.X<_;omega⟩
    unfold RG.may
    refine .inr ⟨hd.xhd,.inl ⟨rfl,?_⟩⟩
    rcases k2 with ⟨k2,k3⟩ | ⟨k2,k3⟩
    ·have ho:d.off c=c:=by unfold Rd.off;rw [k2];rfl
     refine .inl ⟨k2,?_,by omega⟩
     show h.cl (d.off c)=_
     rw [ho];exact m1
    ·subst k3
     exact .inr ⟨k2,rfl⟩) (hI.it.put hk rfl rfl rfl rfl) ((hI.gp.same c1 c2 c3 (wgat_oth hxw)).wake _)
  exact .inr ⟨_,_,gs',_,mm',_,_,e1,e2,MSt.wake_rem _ _,.inr ⟨rfl,Wm.lt1 (by simp [Stg.rank])⟩⟩
 cases ho:d.out with
 | true =>
  obtain⟨u,hu⟩:=Rd.xrow_cell (dn:=h.dn) ho hcn
  have hcell:w.cell? ⟨d.X,d.off c,none⟩=some u:=by unfold World.cell?;rw [hI.wi.x];simpa using hu
  obtain⟨g',hst,hgl⟩:=hstop.2.1 ho u hcell (hI.wi.thaw hd (by omega) _)
  refine fin hst hgl (Rd.xrow_put ho hcn) fun e he=>?_
  simp only [List.mem_toArray,List.mem_cons,List.not_mem_nil,or_false] at he
  subst he
  exact⟨rfl,.inl ⟨ho,rfl⟩⟩
 | false =>
  have e0:d.off c=0:=by unfold Rd.off;rw [ho];rfl
  have hcell:w.cell? ⟨d.X,d.off c,none⟩=some (.int .i64 (dsum d.c h.dn d.n)):=by unfold World.cell?;rw [hI.wi.x,Rd.xrow_sum (by omega) ho,e0];rfl
  obtain⟨g',hst,hgl⟩:=hstop.2.2 ho _ hcell (hI.wi.thaw hd (by omega) _)
  refine fin hst hgl (hd.xrow_add ho hcn m2) fun e he=>?_
  simp only [List.mem_toArray,List.mem_cons,List.not_mem_nil,or_false] at he
  rcases he with rfl | rfl
  ·exact⟨rfl,.inr ⟨ho,rfl⟩⟩
  ·exact⟨rfl,.inr ⟨ho,rfl⟩⟩
theorem RI.aft(hI:RI d cs h l ws μ mm gs w t)(hd:d.Ok){c:Nat}(hk:ws[k]? = some (.aft c,m))(hg:gs[d.g0+1+k]? = some g)(hs:WS d h (d.g0+1+k) t (.aft c) m g w):WOut d cs h l ws μ mm gs w t k (.aft c,m) sl:=by
 obtain⟨⟨c0f,hgo,hA⟩,hdf⟩:=hs
 refine hI.goes hd hk hg hgo (fun m' g' q=>⟨⟨c0f,q,hA⟩,hdf⟩) fun hstop=>?_
 obtain rfl:g=_:=hstop
 obtain⟨m',hp⟩:=wkRet (n:=(d.n:Int)) (fv:=d.fv) hI.wi.live hA
 obtain⟨c1,c2,c3⟩:=cnt3 (σ':=.add) (m':=m') hk rfl rfl rfl
 exact .inl ⟨(.add,m'),hI.stut hk hg ⟨hp,hdf⟩ (hI.it.move hk (.inl rfl) (fun q=>by cases q) fun q=>by cases q) (hI.gp.same c1 c2 c3 fun _ _ x=>x),Wm.lt1 (by simp [Stg.rank])⟩
theorem RI.worker(hI:RI d cs h l ws μ mm gs w t)(hd:d.Ok){s:Stg Crz.prog×Nat}(hk:ws[k]? = some s)(hg:gs[d.g0+1+k]? = some g)(hrun:g.status=.running):WOut d cs h l ws μ mm gs w t k s sl:=by
 obtain⟨g1,h1,hs⟩:=hI.wk k s hk
 rw [hg] at h1
 cases h1
 obtain⟨σ,m⟩:=s
 cases σ with
 | add=>exact hI.add hd hk hg hs
 | rdn c=>exact hI.rdn hd hk hg hs
 | rdf c=>exact hI.rdf hd hk hg hs
 | cal c=>exact hI.cal hd hk hg hs
 | run c a=>exact hI.run hd hk hg hs
 | put c=>exact hI.put hd hk hg hs
 | aft c=>exact hI.aft hd hk hg hs
 | rel=>exact hI.rel hd hk hg hs
 | di=>exact hI.di hd hk hg hs
 | d1=>exact hI.d1 hd hk hg hs
 | d2=>exact hI.d2 hd hk hg hs
 | d3=>exact hI.d3 hd hk hg hs
 | d4=>exact hI.d4 hd hk hg hs
 | quit=>exact hI.quit hd hk hg hrun hs
end
def REnd(d:Rd)(cs:List Frame)(m:Machine)(t:Trace):Prop:=∃ gs w sl l a h gb,m=crowd gs w sl∧gs[0]? = some a∧Lvs Tryz.prog gs t l∧gs.size=d.g0+d.nw+1∧GL Tryz.prog true 124 d.wg (Back gb) a w∧KR d cs gb∧TS d.hd gs.size w.heap.size t∧Deaf t 0=0∧WI d h w∧∀ i,i<d.n→h.dn i=true
abbrev Lt2:Nat×Nat→Nat×Nat→Prop:=Prod.Lex (· < ·) (· < ·)
def MOut(d:Rd)(cs:List Frame)(h:Gh)(l:List Nat)(ws:Ws)(μ:MSt)(mm:Nat)(gs:Array Goroutine)(w:World)(t:Trace)(sl:Option (Nat×Nat)):Prop :=
 (∃ μ' mm',RI d cs h l ws μ' mm' gs w t∧μ'.rem=μ.rem∧Lt2 (μ'.rank (nA ws),mm') (μ.rank (nA ws),mm)) ∨
 (∃ (gs':Array Goroutine) (μ':MSt) (mm':Nat) (w':World) (ops:Trace),runT Tryz.prog (crowd gs w sl) 0=(.next (crowd gs' w' sl),ops)∧RI d cs h l ws μ' mm' gs' w' (t++ops)∧μ'.rem=μ.rem∧Lt2 (μ'.rank (nA ws),mm') (μ.rank (nA ws),mm)) ∨
 (∃ (gs':Array Goroutine) (h':Gh) (ws':Ws) (μ':MSt) (mm':Nat) (w':World) (ops:Trace),runT Tryz.prog (crowd gs w sl) 0=(.next (crowd gs' w' sl),ops)∧RI d cs h' l ws' μ' mm' gs' w' (t++ops)∧μ'.rem<μ.rem) ∨
 (∃ (m':Machine) (ops:Trace),runT Tryz.prog (crowd gs w sl) 0=(.next m',ops)∧REnd d cs m' (t++ops))
section
variable {d:Rd}{cs:List Frame}{h h':Gh}{l:List Nat}{ws:Ws}{μ μ':MSt}{mm mm' k m m':Nat}{gs:Array Goroutine}{w w':World}{t u:Trace}{a a' g gb:Goroutine}{sl:Option (Nat×Nat)}{es:Array Event}
abbrev ev0(a:Goroutine)(es:Array Event):Trace:=MemOp.ofEvents 0 a.frame.fn a.frame.place es
theorem ev0_ne{id:Nat}(hid:id≠0):∀ op∈ev0 a es,op.g≠id:=fun op hop=>by rw [mem_of_g op hop];exact fun e=>hid e.symm
theorem RI.mstep(hI:RI d cs h l ws μ mm gs w t)(ha:gs[0]? = some a)(hst:stepG Tryz.prog true a w=.go a' w' es)(hm:MS d cs μ' mm' a' w')(hdf:deafBehind μ.df es=μ'.df)(hrem:μ'.rem=μ.rem)(hw:WI d h w')
  (hr:∀ id,id≠0→Rely d id h h w w' t (ev0 a es)) (ht:TR (d.rg h) w'.heap.size (t++ev0 a es)) (hgp:Grp d ws w' μ'.md):∃ gs',runT Tryz.prog (crowd gs w sl) 0=(.next (crowd gs' w' sl),ev0 a es)∧RI d cs h l ws μ' mm' gs' w' (t++ev0 a es):=by
 have hrun:=runT_crowd_go (sl:=sl) ha (show stepG Tryz.prog (0 == 0) a w=.go a' w' es from hst)
 have hlt:0<gs.size:=(Array.getElem?_eq_some_iff.1 ha).1
 have hu0:∀ op∈ev0 a es,op.g=0:=mem_of_g
 refine⟨_,hrun,⟨by simp only [Array.size_setIfInBounds,Array.size_map];exact hI.size,hI.len,hI.ll,fun i q hq=>?_,fun i s hs=>?_,⟨a',by simp [hlt],hm⟩,by rw [Deaf_own,hI.deaf];exact hdf,by rw [hrem];exact hI.nw,hw,ht,hI.it,hgp⟩⟩
 ·obtain⟨o,h1,h2⟩:=hI.old i q hq
  refine⟨o,?_,?_⟩
  ·rw [get_ms (by omega),h1]
   simp only [Option.map_some]
   rcases h2.status with e | e <;> rw [woken_same (by rw [e];simp) (by rw [e];simp)]
  ·rw [Deaf_other t (by omega) _ hu0];exact h2
 ·obtain⟨o,h1,h2⟩:=hI.wk i s hs
  refine⟨o,?_,WS.others (hr _ (by omega)) (by omega) h2⟩
  rw [get_ms (by omega),h1]
  simp only [Option.map_some]
  rcases h2.status with e | e <;> rw [woken_same (by rw [e];simp) (by rw [e];simp)]
theorem RI.msay(hI:RI d cs h l ws μ mm gs w t)(hd:d.Ok)(ha:gs[0]? = some a)(hst:stepG Tryz.prog true a w=.go a' w es)(he:∀ e∈es,Hid d.hd 0 e)(hm:MS d cs μ' mm' a' w)(hdf:deafBehind μ.df es=μ'.df)(hrem:μ'.rem=μ.rem)(hgp:Grp d ws w μ'.md)
  (hl:Lt2 (μ'.rank (nA ws),mm') (μ.rank (nA ws),mm)):MOut d cs h l ws μ mm gs w t sl:=by
 obtain⟨gs',e1,e2⟩:=hI.mstep (sl:=sl) ha hst hm hdf hrem hI.wi (fun id hid=>rely_same rfl (ev0_ne hid) rfl) (hI.tr.hid (.inl rfl) (fun c hc=>hI.wi.hd_lt hd hc) he) hgp
 exact .inr (.inl ⟨gs',_,_,_,_,e1,e2,hrem,hl⟩)
theorem RI.msetG(hI:RI d cs h l ws μ mm gs w t)(hd:d.Ok)(ha:gs[0]? = some a){o:Nat}{v:Value}(hst:stepG Tryz.prog true a w=.go a' (w.setCell ⟨d.wg,o,none⟩ v) es)(he:∀ e∈es,Hid d.hd 0 e)(hm:MS d cs μ' mm' a' (w.setCell ⟨d.wg,o,none⟩ v))(hdf:deafBehind μ.df es=μ'.df)(hrem:μ'.rem=μ.rem)(hgp:Grp d ws (w.setCell ⟨d.wg,o,none⟩ v) μ'.md)
  (hl:Lt2 (μ'.rank (nA ws),mm') (μ.rank (nA ws),mm)):MOut d cs h l ws μ mm gs w t sl:=by
 obtain⟨gs',e1,e2⟩:=hI.mstep (sl:=sl) ha hst hm hdf hrem (hI.wi.setG hd hgp.live) (fun id hid=>rely_set rfl (ev0_ne hid) (.inl Rd.hd_wg) fun _=>hgp.live) (by rw [set_size];exact hI.tr.hid (.inl rfl) (fun c hc=>hI.wi.hd_lt hd hc) he) hgp
 exact .inr (.inl ⟨gs',_,_,_,_,e1,e2,hrem,hl⟩)
theorem RI.mstut(hI:RI d cs h l ws μ mm gs w t)(ha:gs[0]? = some a)(hm:MS d cs μ' mm' a w)(hmd:μ'.md=μ.md)(hdf:μ'.df=μ.df)(hrem:μ'.rem=μ.rem)(hl:μ'.rank (nA ws)<μ.rank (nA ws)):MOut d cs h l ws μ mm gs w t sl :=
 .inl ⟨μ',mm',⟨hI.size,hI.len,hI.ll,hI.old,hI.wk,⟨a,ha,hm⟩,by rw [hdf];exact hI.deaf,by rw [hrem];exact hI.nw,hI.wi,hI.tr,hI.it,by rw [hmd];exact hI.gp⟩,hrem,.left _ _ hl⟩
theorem RI.mgoes(hI:RI d cs h l ws μ mm gs w t)(hd:d.Ok)(ha:gs[0]? = some a){Stop:Goroutine→World→Prop}(hgo:GM d Stop mm a w)(keep:∀ m' g',GM d Stop m' g' w→MS d cs μ m' g' w)(stop:(∀ w₁,RL 124 d.wg w w₁→Stop a w₁)→MOut d cs h l ws μ mm gs w t sl):MOut d cs h l ws μ mm gs w t sl:=by
 rcases Goes.cases hgo with hstop | ⟨n',rfl,hstep⟩
 ·exact stop hstop
 ·obtain⟨g',w',es,hst,⟨rfl,rfl⟩,hg'⟩:=hstep w fun x=>x
  exact hI.msay hd ha hst (by simp) (keep n' g' hg') rfl rfl hI.gp (.right _ (Nat.lt_succ_self _))
theorem one_hid{e:Event}(h:Hid d.hd 0 e):∀ x∈(#[e]:Array Event),Hid d.hd 0 x:=fun x hx=>by
 simp only [List.mem_toArray,List.mem_cons,List.not_mem_nil,or_false] at hx
 rw [hx];exact h
theorem rdwr_hid:∀ e∈(#[rd (stA d.wg),wr (stA d.wg)]:Array Event),Hid d.hd 0 e:=by
 intro e he
 simp only [List.mem_toArray,List.mem_cons,List.not_mem_nil,or_false] at he
 rcases he with rfl | rfl
 ·exact hid_rd Rd.hd_wg
 ·exact hid_wr Rd.hd_wg
theorem RI.nA_le(hI:RI d cs h l ws μ mm gs w t)(hd:d.Ok):nA ws≤8:=by
 have h1:nA ws≤ws.length:=List.countP_le_length
 have:=hI.len;have:=hI.nw;have:=hd.nw8
 omega
theorem KA.run(h:KA d cs k gb)(hl:WgLive 124 d.wg w):gb.status=.running:=by
 obtain⟨m,h⟩:=h w hl
 exact Goes.running (fun _ _ x=>x.1) w (fun x=>x) h
theorem RI.spawn(hI:RI d cs h l ws (.asp k) mm gs w t)(hd:d.Ok)(ha:gs[0]? = some a)(hA:ASp d cs k a w):MOut d cs h l ws (.asp k) mm gs w t sl:=by
 obtain⟨_,a',hst,hn⟩:=hA
 obtain⟨m',hm⟩:=hn hI.wi.live
 have hlt:0<gs.size:=(Array.getElem?_eq_some_iff.1 ha).1
 have hrun:=runT_crowd_spawn (sl:=sl) ha (show stepG Tryz.prog (0 == 0) a w=.spawn a' _ w #[] from hst)
 obtain⟨m0,hb⟩:=wkBorn (wg:=d.wg) (nx:=d.nx) (bn:=d.bn) (bf:=d.bf) (n:=(d.n:Int)) (fv:=d.fv) hI.wi.live
 generalize born Tryz.prog (callE d.wg d.nx d.bn d.bf)=ch at hb hrun
 have hsz:gs.size=d.g0+h.j+1:=hI.size
 obtain⟨x,hx⟩:∃ x:MemOp,x={ g:=0,fn:=a.frame.fn,pos:=a.frame.place,act:=.go gs.size }:=⟨_,rfl⟩
 obtain⟨y,hy⟩:∃ y:MemOp,y={ g:=gs.size,fn:=ch.frame.fn,pos:=a.frame.place,act:=.start }:=⟨_,rfl⟩
 have hops:((MemOp.ofEvents 0 a.frame.fn a.frame.place #[]).push { g:=0,fn:=a.frame.fn,pos:=a.frame.place,act:=.go gs.size }).push { g:=gs.size,fn:=ch.frame.fn,pos:=a.frame.place,act:=.start }=#[x,y]:=by
  rw [hx,hy];simp [MemOp.ofEvents]
 rw [hops] at hrun
 have hx1:x.g=0∧x.act=.go (d.g0+h.j+1):=by rw [hx];exact⟨rfl,by rw [hsz]⟩
 have hy1:y.g=d.g0+h.j+1∧y.act=.start:=by rw [hy];exact⟨hsz,rfl⟩
 have hxy:∀ id,id≠0→id≠d.g0+h.j+1→∀ op∈(#[x,y]:Trace),op.g≠id:=fun id i0 i1 op hop=>by
  simp only [List.mem_toArray,List.mem_cons,List.not_mem_nil,or_false] at hop
  rcases hop with rfl | rfl
  ·rw [hx1.1];exact fun e=>i0 e.symm
  ·rw [hy1.1];exact fun e=>i1 e.symm
 have hdeaf:∀ id,Deaf (t++#[x,y]) id=Deaf t id:=fun id=>by
  rw [Deaf_append t id [x,y]]
  simp [deafStep,hx1.2,hy1.2]
 have htr:TR (d.rg h.more) w.heap.size (t++#[x,y]):=hI.tr.fork hx1 hy1 (by rw [hI.deaf];rfl) hI.it.clle hI.it.owle
 have hnew:Deaf t (d.g0+h.j+1)=0:=Deaf_absent fun i op hi e=>by
  have h9:op.g≤d.g0+h.j:=hI.tr.gs i op hi
  omega
 refine .inr (.inr (.inl ⟨_,h.more,ws++[(.add,m0)],.spn k,m',w,_,hrun,⟨by simp only [Array.size_push,Array.size_setIfInBounds];show _=d.g0+(h.j+1)+1;omega,by simp [hI.len,Gh.more],hI.ll,fun i q hq=>?_,fun i s hs=>?_,⟨a',by rw [Array.getElem?_push,if_neg (by simp only [Array.size_setIfInBounds];omega)];simp [hlt],hm⟩,by rw [hdeaf,hI.deaf];rfl,by have:=hI.nw;simp only [MSt.rem,Gh.more] at *;omega,⟨hI.wi.old,hI.wi.cn,hI.wi.cf,hI.wi.cx,hI.wi.x,hI.wi.live,hI.wi.size,hI.wi.grows,hI.wi.ow0⟩,htr,?_,?_⟩,Nat.lt_succ_self _⟩))
 ·obtain⟨o,h1,h2⟩:=hI.old i q hq
  have hil:i<d.g0:=by have:=(List.getElem?_eq_some_iff.1 hq).1;rw [hI.ll] at this;exact this
  refine⟨o,?_,by rw [hdeaf];exact h2⟩
  rw [Array.getElem?_push,if_neg (by simp only [Array.size_setIfInBounds];omega),Array.getElem?_setIfInBounds_ne (by omega)]
  exact h1
 ·by_cases hi:i<ws.length
  ·rw [List.getElem?_append_left hi] at hs
   obtain⟨o,h1,h2⟩:=hI.wk i s hs
   have hij:i<h.j:=by rw [← hI.len];exact hi
   refine⟨o,?_,WS.others (rely_same (h:=h) (h':=h.more) (w:=w) (w':=w) rfl (hxy _ (by omega) (by omega)) rfl) (by omega) h2⟩
   rw [Array.getElem?_push,if_neg (by simp only [Array.size_setIfInBounds];omega),Array.getElem?_setIfInBounds_ne (by omega)]
   exact h1
  ·have hil:i<(ws++[((.add,m0):Stg Crz.prog×Nat)]).length:=(List.getElem?_eq_some_iff.1 hs).1
   have hie:i=ws.length:=by simp at hil;omega
   subst hie
   simp only [List.getElem?_append_right (Nat.le_refl _),Nat.sub_self,List.getElem?_cons_zero,Option.some.injEq] at hs
   subst hs
   have hid:d.g0+1+ws.length=d.g0+h.j+1:=by have:=hI.len;omega
   refine⟨ch,?_,hb,?_⟩
   ·rw [Array.getElem?_push,if_pos (by simp only [Array.size_setIfInBounds];omega)]
   ·rw [hid,hdeaf];exact hnew
 ·have hi:=hI.it
  have hnE:nE d.n (ws++[(.add,m0)])=nE d.n ws:=by simp [nE,Stg.ex]
  have app:∀ (i:Nat) (s:Stg Crz.prog×Nat),(ws++[((.add,m0):Stg Crz.prog×Nat)])[i]? = some s→ws[i]? = some s∨s.1=.add:=fun i s hs=>by
   by_cases hi:i<ws.length
   ·rw [List.getElem?_append_left hi] at hs;exact .inl hs
   ·right
    rw [List.getElem?_append_right (by omega)] at hs
    have:=List.mem_of_getElem? hs
    simp at this
    rw [this]
  refine⟨hi.clz,fun i=>Nat.le_trans (hi.clle i) (by show _≤d.g0+(h.j+1);omega),fun i=>Nat.le_trans (hi.owle i) (by show _≤d.g0+(h.j+1);omega),hi.dn,fun i s c hs hc=>?_,fun i q1 q2 q3=>?_,fun i s hs hp=>?_,by rw [hnE];exact hi.bound⟩
  ·rcases app i s hs with h1 | h1
   ·exact hi.mine i s c h1 hc
   ·rw [h1] at hc;cases hc
  ·obtain⟨q,s,h1,h2⟩:=hi.all i q1 q2 q3
   exact⟨q,s,by rw [List.getElem?_append_left (List.getElem?_eq_some_iff.1 h1).1];exact h1,h2⟩
  ·rcases app i s hs with h1 | h1
   ·exact hi.past i s h1 hp
   ·rw [h1] at hp;cases hp
 ·obtain⟨q3,q4,qw⟩:=hI.gp
  have e1:nA (ws++[(.add,m0)])=nA ws+1:=by simp [nA,Stg.al]
  have e2:n3 (ws++[(.add,m0)])=n3 ws:=by simp [n3,Stg.b3]
  have e3:n4 (ws++[(.add,m0)])=n4 ws:=by simp [n4,Stg.b4]
  exact⟨by rw [e2];exact q3,by rw [e3];exact q4,by rw [e1];exact qw⟩
theorem all_quit(h1:nA ws=0)(h2:n3 ws=0)(h3:n4 ws=0){s:Stg Crz.prog×Nat}(hk:ws[k]? = some s):s.1=.quit:=by
 obtain⟨σ,m⟩:=s
 cases σ <;> first | rfl | exact absurd (cnt_pos (p:=fun s:Stg Crz.prog×Nat=>s.1.al) hk rfl) (by unfold nA at h1;omega) | exact absurd (cnt_pos (p:=fun s:Stg Crz.prog×Nat=>s.1.b3) hk rfl) (by unfold n3 at h2;omega) | exact absurd (cnt_pos (p:=fun s:Stg Crz.prog×Nat=>s.1.b4) hk rfl) (by unfold n4 at h3;omega)
theorem RI.acq(hI:RI d cs h l ws .wacq mm gs w t)(hd:d.Ok)(ha:gs[0]? = some a)(hst:stepG Tryz.prog true a w=.go a' w #[Go.ConcR.mk (.acquire (stA d.wg))])(hgl:GL Tryz.prog true 124 d.wg (Back gb) a' w)(hk:KR d cs gb):MOut d cs h l ws .wacq mm gs w t sl:=by
 obtain⟨qa,q3,q4,qw⟩:=hI.gp
 have hquit:∀ (i:Nat) (s:Stg Crz.prog×Nat),ws[i]? = some s→s.1=.quit:=fun i s hs=>all_quit qa q3 q4 hs
 have hrun:=runT_crowd_go (sl:=sl) ha (show stepG Tryz.prog (0 == 0) a w=.go a' w _ from hst)
 have hlt:0<gs.size:=(Array.getElem?_eq_some_iff.1 ha).1
 obtain⟨y,hy⟩:∃ y:MemOp,y={ g:=0,fn:=a.frame.fn,pos:=a.frame.place,act:=.mark (.acquire (stA d.wg)) }:=⟨_,rfl⟩
 have hops:MemOp.ofEvents 0 a.frame.fn a.frame.place #[Go.ConcR.mk (.acquire (stA d.wg))]=#[y]:=by rw [hy,ofEvents_eq];simp [Go.ConcR.ofEvent_mk]
 have hdf:Deaf t 0=0:=hI.deaf
 have hj:h.j=d.nw:=by have:=hI.nw;simp only [MSt.rem] at this;omega
 have hts:=hI.tr.join (ad:=stA d.wg) (y:=y) (by rw [hy];exact⟨rfl,rfl⟩) hdf fun i hi=>by
  obtain⟨k1,k2⟩:=hi
  have k1':d.g0<i:=k1
  have k2':i≤d.g0+h.j:=k2
  obtain⟨q,hq⟩:∃ q,i=d.g0+1+q:=⟨i-(d.g0+1),by omega⟩
  have hql:q<ws.length:=by rw [hI.len];omega
  obtain⟨g1,_,h2⟩:=hI.wk q ws[q] (List.getElem?_eq_getElem hql)
  have e:=hquit q ws[q] (List.getElem?_eq_getElem hql)
  rw [e] at h2
  rw [hq]
  exact h2.2
 have hu0:∀ op∈(#[y]:Trace),op.g=0:=fun op hop=>by simp at hop;rw [hop,hy]
 rw [hops] at hrun
 have hle:(l++ws.map (·.2)).length=d.g0+h.j:=by simp [hI.ll,hI.len]
 refine .inr (.inr (.inr ⟨_,_,hrun,_,w,sl,l++ws.map (·.2),a',h,gb,rfl,by simp [hlt],⟨by simp only [Array.size_setIfInBounds,Array.size_map];rw [hI.size,hle],fun i q hq=>?_⟩,by simp only [Array.size_setIfInBounds,Array.size_map];rw [hI.size,hj],hgl,hk,?_,?_,hI.wi,fun i hi=>?_⟩))
 ·by_cases hil:i<l.length
  ·rw [List.getElem?_append_left hil] at hq
   obtain⟨o,h1,h2⟩:=hI.old i q hq
   refine⟨o,?_,by rw [Deaf_other t (by omega) _ hu0];exact h2⟩
   rw [get_ms (by omega),h1]
   simp only [Option.map_some]
   rcases h2.status with e | e <;> rw [woken_same (by rw [e];simp) (by rw [e];simp)]
  ·rw [List.getElem?_append_right (by omega),List.getElem?_map] at hq
   obtain⟨s,hs,hsq⟩:=Option.map_eq_some_iff.1 hq
   obtain⟨o,h1,h2⟩:=hI.wk _ s hs
   have e:=hquit _ s hs
   rw [e] at h2
   have hid:d.g0+1+(i-l.length)=i+1:=by have:=hI.ll;omega
   rw [hid] at h1 h2
   refine⟨o,?_,by rw [Deaf_other t (by omega) _ hu0,← hsq];exact h2.1⟩
   rw [get_ms (by omega),h1]
   simp only [Option.map_some]
   rcases h2.1.status with e | e <;> rw [woken_same (by rw [e];simp) (by rw [e];simp)]
 ·have hsz:((gs.map (woken Tryz.prog a a' w)).setIfInBounds 0 a').size=(d.rg h).g0+(d.rg h).j+1:=by simp only [Array.size_setIfInBounds,Array.size_map];exact hI.size
  rw [hsz]
  exact hts
 ·have:Deaf (t++#[y]) 0=deafStep 0 (Deaf t 0) y:=by rw [Deaf_append t 0 [y]];rfl
  rw [this,hdf,hy];rfl
 ·have hws:0<ws.length:=by rw [hI.len,hj];exact hd.nw1
  have hp:=hI.it.past 0 ws[0] (List.getElem?_eq_getElem hws) (by rw [hquit 0 _ (List.getElem?_eq_getElem hws)];rfl)
  cases hdn:h.dn i with
  | true=>rfl
  | false =>
   obtain⟨q,s,h1,h2⟩:=hI.it.all i (by omega) hi hdn
   rw [hquit q s h1] at h2;cases h2
theorem RI.starter(hI:RI d cs h l ws μ mm gs w t)(hd:d.Ok)(ha:gs[0]? = some a)(hrun:a.status=.running):MOut d cs h l ws μ mm gs w t sl:=by
 obtain⟨a1,h1,hm⟩:=hI.main
 rw [ha] at h1
 cases h1
 have hnA:=hI.nA_le hd
 cases μ with
 | spn r =>
  refine hI.mgoes hd ha hm (fun m' g' q=>q) fun hstop=>?_
  have hs:=hstop w fun x=>x
  cases r with
  | zero =>
   obtain⟨gb,anch,⟨m',h1⟩,h2,h3⟩:=hs
   exact hI.mstut (μ':=.wdi) (mm':=m') ha ⟨gb,anch,h1,h2,h3⟩ rfl rfl rfl (by simp [MSt.rank])
  | succ r =>
   obtain⟨gb,⟨m',h1⟩,h2⟩:=hs
   exact hI.mstut (μ':=.adi r) (mm':=m') ha ⟨gb,h1,h2⟩ rfl rfl rfl (by simp [MSt.rank])
 | adi r =>
  obtain⟨gb,hgo,hk⟩:=hm
  refine hI.mgoes hd ha hgo (fun m' g' q=>⟨gb,q,hk⟩) fun hstop=>?_
  obtain⟨_,g',hst,m',hg'⟩:=hstop w fun x=>x
  exact hI.msay (μ':=.aat r) (mm':=m') hd ha hst (one_hid hid_dis) ⟨gb,hg',hk⟩ rfl rfl hI.gp (.left _ _ (by simp [MSt.rank]))
 | aat r =>
  obtain⟨gb,hgo,hk⟩:=hm
  refine hI.mgoes hd ha hgo (fun m' g' q=>⟨gb,q,hk⟩) fun hstop=>?_
  obtain⟨_,hs⟩:=hstop w fun x=>x
  obtain⟨q3,q4,qw⟩:=hI.gp
  obtain⟨g',hst,z1,z2⟩:=hs (nA ws) (by omega) (by simpa using qw)
  have hgp:Grp d ws (w.setCell (stA d.wg) (.int .u64 (((nA ws:Int)+1) * KK))) (.op 1):=⟨q3,q4,by simpa using qw.setSt _⟩
  by_cases hz:nA ws=0
  ·obtain⟨m',hg'⟩:=z1 hz
   exact hI.msetG (μ':=.ard r) (mm':=m') hd ha hst rdwr_hid ⟨gb,hg',hk⟩ rfl rfl hgp (.left _ _ (by simp [MSt.rank]))
  ·obtain⟨m',hg'⟩:=z2 hz
   exact hI.msetG (μ':=.aen r) (mm':=m') hd ha hst rdwr_hid ⟨gb,hg',hk⟩ rfl rfl hgp (.left _ _ (by simp [MSt.rank]))
 | ard r =>
  obtain⟨gb,hgo,hk⟩:=hm
  refine hI.mgoes hd ha hgo (fun m' g' q=>⟨gb,q,hk⟩) fun hstop=>?_
  obtain⟨_,g',hst,m',hg'⟩:=hstop w fun x=>x
  exact hI.msay (μ':=.aen r) (mm':=m') hd ha hst (one_hid (hid_read Rd.hd_wg)) ⟨gb,hg',hk⟩ rfl rfl hI.gp (.left _ _ (by simp [MSt.rank]))
 | aen r =>
  obtain⟨gb,hgo,hk⟩:=hm
  refine hI.mgoes hd ha hgo (fun m' g' q=>⟨gb,q,hk⟩) fun hstop=>?_
  obtain⟨_,g',hst,m',hg'⟩:=hstop w fun x=>x
  exact hI.msay (μ':=.abk r) (mm':=m') hd ha hst (one_hid hid_ena) ⟨gb,hg',hk,hk.run hI.wi.live⟩ rfl rfl hI.gp (.left _ _ (by simp [MSt.rank]))
 | abk r =>
  obtain⟨gb,hgo,hk,hr⟩:=hm
  refine hI.mgoes hd ha hgo (fun m' g' q=>⟨gb,q,hk,hr⟩) fun hstop=>?_
  obtain rfl:a=gb:=hstop w fun x=>x
  obtain⟨m',hg'⟩:=hk w hI.wi.live
  exact hI.mstut (μ':=.asp r) (mm':=m') ha hg' rfl rfl rfl (by simp [MSt.rank])
 | asp r =>
  refine hI.mgoes hd ha hm (fun m' g' q=>q) fun hstop=>?_
  exact hI.spawn hd ha (hstop w fun x=>x)
 | wdi =>
  obtain⟨gb,anch,hgo,hk⟩:=hm
  refine hI.mgoes hd ha hgo (fun m' g' q=>⟨gb,anch,q,hk⟩) fun hstop=>?_
  obtain⟨_,g',hst,m',hg'⟩:=hstop w fun x=>x
  exact hI.msay (μ':=.wan) (mm':=m') hd ha hst (one_hid hid_dis) ⟨gb,anch,hg',hk⟩ rfl rfl hI.gp (.left _ _ (by simp [MSt.rank]))
 | wan =>
  obtain⟨gb,anch,hgo,hk,hr⟩:=hm
  refine hI.mgoes hd ha hgo (fun m' g' q=>⟨gb,anch,q,hk,hr⟩) fun hstop=>?_
  obtain⟨m',hg'⟩:=hk a w (hstop w fun x=>x)
  exact hI.mstut (μ':=.w1) (mm':=m') ha ⟨gb,anch,hg',hk,hr⟩ rfl rfl rfl (by simp [MSt.rank])
 | w1 =>
  obtain⟨gb,anch,hgo,hk,hr⟩:=hm
  refine hI.mgoes hd ha hgo (fun m' g' q=>⟨gb,anch,q,hk,hr⟩) fun hstop=>?_
  obtain⟨_,hs⟩:=hstop w fun x=>x
  obtain⟨q3,q4,qw⟩:=hI.gp
  obtain⟨g',hst,z1,z2⟩:=hs (nA ws) (by omega) (by simpa using qw)
  by_cases hz:nA ws=0
  ·obtain⟨m',hg'⟩:=z1 hz
   exact hI.msay (μ':=.wen) (mm':=m') hd ha hst (one_hid (hid_rd Rd.hd_wg)) ⟨gb,hg',hr⟩ rfl rfl ⟨hz,q3,q4,by rw [hz] at qw;simpa using qw⟩ (.left _ _ (by simp [MSt.rank]))
  ·obtain⟨m',hg'⟩:=z2 hz
   exact hI.msay (μ':=.w2 (nA ws)) (mm':=m') hd ha hst (one_hid (hid_rd Rd.hd_wg)) ⟨gb,anch,hg',hk,hr,hz⟩ rfl rfl ⟨q3,q4,qw⟩ (.left _ _ (by simp [MSt.rank]))
 | w2 v =>
  obtain⟨gb,anch,hgo,hk,hr,hv⟩:=hm
  refine hI.mgoes hd ha hgo (fun m' g' q=>⟨gb,anch,q,hk,hr,hv⟩) fun hstop=>?_
  obtain⟨_,hs⟩:=hstop w fun x=>x
  obtain⟨q3,q4,qw⟩:=hI.gp
  obtain⟨z1,z2⟩:=hs (nA ws) (by omega) (by simpa using qw)
  by_cases hz:nA ws=v
  ·obtain⟨g',hst,m',hg'⟩:=z1 hz
   exact hI.msetG (μ':=.wwr) (mm':=m') hd ha hst rdwr_hid ⟨gb,hg',hr⟩ rfl rfl (.inl ⟨by omega,q3,q4,qw.setSt _⟩) (.left _ _ (by simp [MSt.rank,hz]))
  ·obtain⟨g',hst,m',hg'⟩:=z2 hz
   exact hI.msay (μ':=.wan) (mm':=m') hd ha hst (one_hid (hid_rd Rd.hd_wg)) ⟨gb,anch,hg',hk,hr⟩ rfl rfl ⟨q3,q4,qw⟩ (.left _ _ (by simp [MSt.rank,Ne.symm hz]))
 | wwr =>
  obtain⟨gb,hgo,hk⟩:=hm
  refine hI.mgoes hd ha hgo (fun m' g' q=>⟨gb,q,hk⟩) fun hstop=>?_
  obtain⟨_,g',hst,m',hg'⟩:=hstop w fun x=>x
  exact hI.msay (μ':=.w3) (mm':=m') hd ha hst (one_hid (hid_write Rd.hd_wg)) ⟨gb,hg',hk⟩ rfl rfl hI.gp (.left _ _ (by simp [MSt.rank]))
 | w3 =>
  obtain⟨gb,hgo,hk⟩:=hm
  refine hI.mgoes hd ha hgo (fun m' g' q=>⟨gb,q,hk⟩) fun hstop=>?_
  obtain⟨_,_,z1,z2⟩:=hstop w fun x=>x
  have block:(∃ st,WgAt 124 d.wg w st 0)→Grp d ws w (.rg false)→MOut d cs h l ws .w3 mm gs w t sl:=fun hst hgp =>
   hI.msay (μ':=.blk) (mm':=0) hd ha (z1 hst) (by simp) ⟨gb,a,rfl,hstop,hk⟩ rfl rfl hgp (.left _ _ (by simp [MSt.rank]))
  rcases hI.gp with q | q | q | ⟨_,q,q3,q4,qw⟩
  ·exact block ⟨_,q.2.2.2⟩ (.inl q)
  ·exact block ⟨_,q.2.2.2⟩ (.inr (.inl q))
  ·exact block ⟨_,q.2.2.2⟩ (.inr (.inr (.inl q)))
  ·obtain⟨g',hst,m',hg'⟩:=z2 qw
   exact hI.msetG (μ':=.w4) (mm':=m') hd ha hst (hid_sem Rd.hd_wg) ⟨gb,hg',hk⟩ rfl rfl ⟨q,q3,q4,qw.setSm _⟩ (.left _ _ (by simp [MSt.rank]))
 | blk =>
  obtain⟨gb,g0,rfl,_⟩:=hm
  cases hrun
 | w4 =>
  obtain⟨gb,hgo,hk⟩:=hm
  refine hI.mgoes hd ha hgo (fun m' g' q=>⟨gb,q,hk⟩) fun hstop=>?_
  obtain⟨_,hs⟩:=hstop w fun x=>x
  obtain⟨g',hst,m',hg'⟩:=hs hI.gp.2.2.2
  exact hI.msay (μ':=.wen) (mm':=m') hd ha hst (one_hid (hid_rd Rd.hd_wg)) ⟨gb,hg',hk⟩ rfl rfl hI.gp (.left _ _ (by simp [MSt.rank]))
 | wen =>
  obtain⟨gb,hgo,hk⟩:=hm
  refine hI.mgoes hd ha hgo (fun m' g' q=>⟨gb,q,hk⟩) fun hstop=>?_
  obtain⟨_,g',hst,m',hg'⟩:=hstop w fun x=>x
  exact hI.msay (μ':=.wacq) (mm':=m') hd ha hst (one_hid hid_ena) ⟨gb,hg',hk⟩ rfl rfl hI.gp (.left _ _ (by simp [MSt.rank]))
 | wacq =>
  obtain⟨gb,hgo,hk⟩:=hm
  refine hI.mgoes hd ha hgo (fun m' g' q=>⟨gb,q,hk⟩) fun hstop=>?_
  obtain⟨_,g',hst,hg'⟩:=hstop w fun x=>x
  exact hI.acq hd ha hst hg' hk
end
theorem leads_of_inv2{P:Program}{Q:Machine→Trace→Prop}{α:Type}{r:α→α→Prop}(wf:WellFounded r)(Inv:α→Machine→Trace→Prop)
  (h:∀ μ m t,Inv μ m t→Q m t∨(∃ μ',r μ' μ∧Inv μ' m t)∨∃ m' ops,stepT P m=(.next m',ops)∧(Q m' (t++ops)∨∃ μ',r μ' μ∧Inv μ' m' (t++ops))):∀ μ m t,Inv μ m t→Leads P m t Q:=by
 intro μ
 induction μ using wf.induction with
 | _ μ ih =>
  intro m t hI
  rcases h μ m t hI with hq | ⟨μ',hr,hI'⟩ | ⟨m',ops,hs,hq | ⟨μ',hr,hI'⟩⟩
  ·exact .here hq
  ·exact ih μ' hr m t hI'
  ·exact⟨1,m',t++ops,by rw [runNT_succ_next hs];rfl,hq⟩
  ·obtain⟨n,m2,t2,h1,h2⟩:=ih μ' hr m' (t++ops) hI'
   exact⟨n+1,m2,t2,by rw [runNT_succ_next hs];exact h1,h2⟩
abbrev Rq:Type:=Nat×Nat×List Nat×List (Wm Crz.prog)×(Nat×Nat)
abbrev Rq.lt:Rq→Rq→Prop:=Prod.Lex (· < ·) (Prod.Lex (· < ·) (Prod.Lex (Low1 (· < ·)) (Prod.Lex (Low1 (Wm.lt Crz.prog)) Lt2)))
theorem Rq.wf:WellFounded Rq.lt:=(Prod.lex ⟨_,Nat.lt_wfRel.wf⟩ (Prod.lex ⟨_,Nat.lt_wfRel.wf⟩ (Prod.lex ⟨_,low1_wf Nat.lt_wfRel.wf⟩ (Prod.lex ⟨_,low1_wf (Wm.wf _)⟩ (Prod.lex ⟨_,Nat.lt_wfRel.wf⟩ ⟨_,Nat.lt_wfRel.wf⟩))))).wf
noncomputable def mq(d:Rd)(h:Gh)(l:List Nat)(ws:Ws)(μ:MSt)(mm:Nat):Rq:=(μ.rem,d.n-h.cnt,l,ws.map (wm d),(μ.rank (nA ws),mm))
section
variable {d:Rd}{cs:List Frame}{h h':Gh}{l:List Nat}{ws:Ws}{μ μ':MSt}{mm mm' k m m':Nat}{gs:Array Goroutine}{w w':World}{t u:Trace}{a a' g gb:Goroutine}{sl:Option (Nat×Nat)}{es:Array Event}
theorem low_set{s s':Stg Crz.prog×Nat}(hk:ws[k]? = some s)(hl:Wm.lt Crz.prog (wm d s') (wm d s)):Low1 (Wm.lt Crz.prog) ((ws.set k s').map (wm d)) (ws.map (wm d)) :=
 ⟨k,wm d s,wm d s',by rw [List.getElem?_map,hk];rfl,hl,List.map_set⟩
theorem lt_w{r b:Nat}{x x':List (Wm Crz.prog)}{y y':Nat×Nat}(h:Low1 (Wm.lt Crz.prog) x' x):Rq.lt (r,b,l,x',y') (r,b,l,x,y):=.right _ (.right _ (.right _ (.left _ _ h)))
theorem RI.leaver(hI:RI d cs h l ws μ mm gs w t)(hd:d.Ok)(hk:k<d.g0)(hg:gs[k+1]? = some g)(hrun:g.status=.running) :
  ∃ gs' l' mm' ops,runT Tryz.prog (crowd gs w sl) (k+1)=(.next (crowd gs' w sl),ops)∧RI d cs h l' ws (μ.wake (mayWake Tryz.prog g)) mm' gs' w (t++ops)∧Low1 (· < ·) l' l:=by
 have hkl:k<l.length:=by rw [hI.ll];exact hk
 obtain⟨g1,h1,hq⟩:=hI.old k l[k] (List.getElem?_eq_getElem hkl)
 rw [hg] at h1;cases h1
 have hlk:l[k]? = some l[k]:=List.getElem?_eq_getElem hkl
 generalize l[k]=q at hq hlk
 cases q with
 | zero=>rw [hq.1] at hrun;cases hrun
 | succ q =>
  rcases hq with ⟨hf,_⟩ | ⟨_,g',es,he,hst,hq'⟩
  ·rw [hf] at hrun;cases hrun
  have h0:(k+1 == 0)=false:=by simp
  have hru:=runT_crowd_go (sl:=sl) hg (show stepG Tryz.prog (k+1 == 0) g w=.go g' w es by rw [h0];exact hst w)
  obtain⟨a,ha,hm⟩:=hI.main
  obtain⟨mm',hm'⟩:=hm.woken (g:=g) (g':=g') (w':=w) (fun x=>x) hq'.status
  have hlt:k+1<gs.size:=(Array.getElem?_eq_some_iff.1 hg).1
  have hu0:∀ op∈MemOp.ofEvents (k+1) g.frame.fn g.frame.place es,op.g=k+1:=mem_of_g
  have hmu:=mute_ops (g:=k+1) (fn:=g.frame.fn) (pos:=g.frame.place) he
  refine⟨_,l.set k q,mm',_,hru,⟨by simp only [Array.size_setIfInBounds,Array.size_map];exact hI.size,hI.len,by rw [List.length_set];exact hI.ll,fun i p hp=>?_,fun i s hs=>?_,⟨_,by rw [get_ms (by omega),ha];rfl,hm'⟩,by rw [Deaf_other t (by omega) _ hu0,MSt.wake_df];exact hI.deaf,by rw [MSt.wake_rem];exact hI.nw,hI.wi,?_,hI.it,hI.gp.wake _⟩,⟨k,q+1,q,hlk,Nat.lt_succ_self q,rfl⟩⟩
  ·rcases get_set hlk hp with ⟨rfl,rfl⟩ | ⟨hne,hz⟩
   ·exact⟨g',by simp [hlt],by rw [Deaf_own];exact hq'⟩
   ·obtain⟨o,h1,h2⟩:=hI.old i p hz
    refine⟨o,?_,by rw [Deaf_other t (by omega) _ hu0];exact h2⟩
    rw [get_ms (by omega),h1]
    simp only [Option.map_some]
    rcases h2.status with e | e <;> rw [woken_same (by rw [e];simp) (by rw [e];simp)]
  ·obtain⟨o,h1,h2⟩:=hI.wk i s hs
   refine⟨o,?_,WS.others (rely_same rfl (fun op hop=>by rw [hu0 op hop];omega) rfl) (by omega) h2⟩
   rw [get_ms (by omega),h1]
   simp only [Option.map_some]
   rcases h2.status with e | e <;> rw [woken_same (by rw [e];simp) (by rw [e];simp)]
  ·exact hI.tr.mute (by show k+1≤d.g0+h.j;omega) hu0 (fun op hop=>(hmu op hop).2.1) fun op hop=>(hmu op hop).2.2
theorem RI.awake(hI:RI d cs h l ws μ mm gs w t):∀ g∈gs,awake g:=by
 intro g hg tm
 obtain⟨i,hi⟩:=Array.mem_iff_getElem?.1 hg
 have hil:i<gs.size:=(Array.getElem?_eq_some_iff.1 hi).1
 rw [hI.size] at hil
 rcases Nat.lt_or_ge 0 i with h0 | h0
 ·rcases Nat.lt_or_ge d.g0 i with h1 | h1
  ·have hw:i-(d.g0+1)<ws.length:=by rw [hI.len];omega
   obtain⟨o,k1,k2⟩:=hI.wk _ _ (List.getElem?_eq_getElem hw)
   rw [show d.g0+1+(i-(d.g0+1))=i by omega,hi] at k1
   cases k1
   rcases k2.status with e | e <;> rw [e] <;> simp
  ·have hw:i-1<l.length:=by rw [hI.ll];omega
   obtain⟨o,k1,k2⟩:=hI.old _ _ (List.getElem?_eq_getElem hw)
   rw [show i-1+1=i by omega,hi] at k1
   cases k1
   rcases k2.status with e | e <;> rw [e] <;> simp
 ·obtain rfl:i=0:=by omega
  obtain⟨a,k1,k2⟩:=hI.main
  rw [hi] at k1;cases k1
  by_cases hb:μ=.blk
  ·subst hb
   obtain⟨gb,g0,rfl,_⟩:=k2
   simp
  ·rw [k2.status hb];simp
theorem RI.some_runs(hI:RI d cs h l ws μ mm gs w t):∃ (i:Nat) (g:Goroutine),gs[i]? = some g∧g.status=.running:=by
 obtain⟨a,k1,k2⟩:=hI.main
 by_cases hb:μ=.blk
 ·subst hb
  have:∃ s∈ws,s.1≠.quit:=by
   rcases hI.gp with q | q | q | q
   ·obtain⟨s,h1,h2⟩:=List.countP_pos_iff.1 (Nat.pos_of_ne_zero q.1)
    exact⟨s,h1,fun e=>by rw [e] at h2;cases h2⟩
   ·have:0<n3 ws:=by rw [q.2.1];exact Nat.one_pos
    obtain⟨s,h1,h2⟩:=List.countP_pos_iff.1 this
    exact⟨s,h1,fun e=>by rw [e] at h2;cases h2⟩
   ·have:0<n4 ws:=by rw [q.2.2.1];exact Nat.one_pos
    obtain⟨s,h1,h2⟩:=List.countP_pos_iff.1 this
    exact⟨s,h1,fun e=>by rw [e] at h2;cases h2⟩
   ·cases q.1
  obtain⟨s,h1,h2⟩:=this
  obtain⟨i,hi⟩:=List.mem_iff_getElem?.1 h1
  obtain⟨g,h3,h4⟩:=hI.wk i s hi
  exact⟨_,g,h3,h4.running h2⟩
 ·exact⟨0,a,k1,k2.status hb⟩
theorem round_ends(hd:d.Ok)(hI:RI d cs h l ws μ mm gs w t):Leads Tryz.prog (crowd gs w sl) t (REnd d cs):=by
 refine leads_of_inv2 Rq.wf (fun (x:Rq) m t=>∃ gs w sl h l ws μ mm,m=crowd gs w sl∧x=mq d h l ws μ mm∧RI d cs h l ws μ mm gs w t) ?_ (mq d h l ws μ mm) _ _ ⟨gs,w,sl,h,l,ws,μ,mm,rfl,rfl,hI⟩
 clear hI
 rintro x m t ⟨gs,w,sl,h,l,ws,μ,mm,rfl,rfl,hI⟩
 obtain⟨i,g,dd,sl',hi,hrun,hst⟩:=crowd_pick (P:=Tryz.prog) (w:=w) (sl:=sl) hI.awake hI.some_runs
 replace hI:=hI.at dd
 right
 have hil:i<gs.size:=(Array.getElem?_eq_some_iff.1 hi).1
 rw [hI.size] at hil
 have back:∀ {l:List Nat} {ws:Ws} {μ:MSt} {mm:Nat},RI d cs h l ws μ mm gs (w.at dd) t→RI d cs h l ws μ mm gs w t:=fun q=>q.at w.drawn
 rcases Nat.lt_or_ge 0 i with h0 | h0
 ·rcases Nat.lt_or_ge d.g0 i with h1 | h1
  ·obtain⟨k,rfl⟩:∃ k,i=d.g0+1+k:=⟨i-(d.g0+1),by omega⟩
   have hw:k<ws.length:=by rw [hI.len];omega
   have hk:=List.getElem?_eq_getElem hw
   rcases hI.worker (sl:=sl') hd hk hi hrun with ⟨s',hI',hl⟩ | ⟨h',s',gs',μ',mm',w',ops,e1,e2,e3,e4⟩
   ·refine .inl ⟨mq d h l (ws.set k s') μ mm,?_,gs,w,sl,h,l,_,μ,mm,rfl,rfl,back hI'⟩
    exact lt_w (low_set hk hl)
   ·refine .inr ⟨_,ops,hst.trans e1,.inr ⟨mq d h' l (ws.set k s') μ' mm',?_,gs',w',sl',h',l,_,μ',mm',rfl,rfl,e2⟩⟩
    unfold mq
    rw [e3]
    rcases e4 with e4 | ⟨e4,e5⟩
    ·exact .right _ (.left _ _ e4)
    ·rw [e4]
     exact lt_w (low_set hk e5)
  ·obtain⟨k,rfl⟩:∃ k,i=k+1:=⟨i-1,by omega⟩
   obtain⟨gs',l',mm',ops,e1,e2,e3⟩:=hI.leaver (sl:=sl') hd (by omega) hi hrun
   refine .inr ⟨_,ops,hst.trans e1,.inr ⟨mq d h l' ws _ mm',?_,gs',_,sl',h,l',_,_,mm',rfl,rfl,e2⟩⟩
   unfold mq
   rw [MSt.wake_rem]
   exact .right _ (.right _ (.left _ _ e3))
 ·obtain rfl:i=0:=by omega
  rcases hI.starter (sl:=sl') hd hi hrun with ⟨μ',mm',hI',e3,hl⟩ | ⟨gs',μ',mm',w',ops,e1,e2,e3,hl⟩ | ⟨gs',h',ws',μ',mm',w',ops,e1,e2,e3⟩ | ⟨m',ops,e1,e2⟩
  ·refine .inl ⟨mq d h l ws μ' mm',?_,gs,w,sl,h,l,_,μ',mm',rfl,rfl,back hI'⟩
   unfold mq
   rw [e3]
   exact .right _ (.right _ (.right _ (.right _ hl)))
  ·refine .inr ⟨_,ops,hst.trans e1,.inr ⟨mq d h l ws μ' mm',?_,gs',w',sl',h,l,_,μ',mm',rfl,rfl,e2⟩⟩
   unfold mq
   rw [e3]
   exact .right _ (.right _ (.right _ (.right _ hl)))
  ·exact .inr ⟨_,ops,hst.trans e1,.inr ⟨mq d h' l ws' μ' mm',.left _ _ e3,gs',w',sl',h',l,ws',μ',mm',rfl,rfl,e2⟩⟩
  ·exact .inr ⟨m',ops,hst.trans e1,.inl e2⟩
end
end Go.Proofs.YtdoibgmmijhlfaaGreat.Sm
namespace Go.Proofs.YtdoibgmmijhlfaaGreat.Sm
open Go Go.Conc Go.ConcN
set_option linter.unusedVariables false
section
variable {w w':World}(h:∀ a,w'.cell? a=w.cell? a)
include h
theorem cellsAt_cong{A:Option Addr}{vs:List Value}(k:CellsAt w A vs):CellsAt w' A vs:=by
 unfold CellsAt at *;simp only [h];exact k
theorem rulesAt_cong{v:Value}{R:RM}(k:RA w v R):RA w' v R:=by
 unfold RA PiecesAt PieceVals WaysAt EndsAt IntsAt CellsAt at *;simp only [h];exact k
theorem posAt_cong{v:Value}{P:PosM}(k:PA w v P):PA w' v P:=by
 unfold PA IntsAt at *;simp only [h];exact k
theorem rd_cong{B:Nat}{cs:Array Value}(k:Go.Proofs.YtdoibgmmijhlfaaGreat.Rd w B cs):Go.Proofs.YtdoibgmmijhlfaaGreat.Rd w' B cs:=by
 unfold Go.Proofs.YtdoibgmmijhlfaaGreat.Rd at *;simp only [h];exact k
theorem scAt_cong{R:RM}{P:PosM}{v u:Value}{D:Int}{A:Option Addr}{c3 B1 B2 B3 B4 B5 O:Nat}(k:ScAt w R P v u D A c3 B1 B2 B3 B4 B5 O):ScAt w' R P v u D A c3 B1 B2 B3 B4 B5 O :=
 ⟨rulesAt_cong h k.hR,posAt_cong h k.hP,cellsAt_cong h k.hM,k.h1.imp fun cs q=>⟨q.1,rd_cong h q.2⟩,k.h2.imp fun cs q=>⟨q.1,rd_cong h q.2⟩,rd_cong h k.h3,rd_cong h k.h4,rd_cong h k.h5⟩
theorem ctAt_cong{R:RM}{P:PosM}{v u:Value}{D:Int}{A:Option Addr}{c3 B1 B2 B3 B4:Nat}(k:CtAt w R P v u D A c3 B1 B2 B3 B4):CtAt w' R P v u D A c3 B1 B2 B3 B4 :=
 ⟨rulesAt_cong h k.hR,posAt_cong h k.hP,cellsAt_cong h k.hM,k.h1.imp fun cs q=>⟨q.1,rd_cong h q.2⟩,k.h2.imp fun cs q=>⟨q.1,rd_cong h q.2⟩,rd_cong h k.h3,rd_cong h k.h4⟩
end
theorem cell_heap{w w':World}{a:Addr}(h:w'.heap[a.block]? = w.heap[a.block]?):w'.cell? a=w.cell? a:=by unfold World.cell?;rw [h]
theorem ice_same{w0 wl:World}{O:Nat}{r0:Array Value}{ty:TypeId}(hh:w0.heap=wl.heap)(hO:wl.heap[O]? = some (.cells r0 ty (0,0)))(t:Nat→Question→Nat) :
  Gr O w0 { w0 with heap:=w0.heap.setIfInBounds O (.cells #[] ty (0,0)) }∧∀ a,((iceW wl (· == O)).taped t).cell? a=({ w0 with heap:=w0.heap.setIfInBounds O (.cells #[] ty (0,0)) }:World).cell? a:=by
 refine⟨⟨rfl,rfl,rfl,by simp,fun b hb hne=>Array.getElem?_setIfInBounds_ne (fun e=>hne (by rw [e]))⟩,fun a=>?_⟩
 show (iceW wl (· == O)).cell? a=_
 have hlt:O<w0.heap.size:=by rw [hh];exact(Array.getElem?_eq_some_iff.1 hO).1
 by_cases e:a.block=O
 ·refine cell_heap ?_
  rw [e,ice_get,hO]
  simp [iceO,hlt]
 ·rw [ice_cell (by simpa using e)]
  exact cell_heap (by
   show wl.heap[a.block]? = (w0.heap.setIfInBounds O _)[a.block]?
   rw [Array.getElem?_setIfInBounds_ne (Ne.symm e),hh])
structure EPre(wl:World)(n nw:Nat)(out:Bool)(caps:Array Value)(O:Nat)(c:Nat→Int)(ty:TypeId)(r0 r1:Array Value):Prop where
 n_le:n≤1000000
 nw1:1≤nw
 nw8:nw≤8
 caps5:∃ a1 a2 a3 a4 a5:Nat,caps=#[ptrTo a1,ptrTo a2,ptrTo a3,ptrTo a4,ptrTo a5]∧(out=true→0<O∧wl.cell? ⟨a5,0,none⟩=some (.slice (some ⟨O,0,none⟩) n n))∧(out=false→a5=O)
 row:wl.heap[O]? = some (.cells r0 ty (0,0))
 calls:∀ i,i<n→∀ t,Calls Crz.prog (kf out) (#[.int .i64 i]++caps) ((iceW wl (· == O)).taped t) fun e _=>e=.returned (.tuple #[.pointer (some ⟨O,if out then i else 0,none⟩),.int .i64 (c i)])
 bnd:out=false→∀ i,i<n→0≤c i∧c i≤50000
 rest:∀ t k,restE.wp Crz.prog (bodyPost Crz.prog eachS fun e w'=>e=.returned (.tuple #[])∧w'.heap[O]? = some (.cells r1 ty (0,0))∧Gr O { wl with tape:=t,drawn:=k } w') ⟨#[.int .i64 n,.int .i64 nw,.func (.func (kf out)) #[] caps,.bool false,undef,undef,undef,undef,undef,undef,undef,undef,undef,undef,undef],[]⟩ { wl with tape:=t,drawn:=k }
 sc:out=true→r0=outRow c n 0∧r1=outRow c n n
 ct:out=false→r0=#[.int .i64 0]∧∃ s:Nat→Int,r1=#[.int .i64 (s n)]∧s 0=0∧∀ i,i<n→s (i+1)=s i+c i
set_option maxHeartbeats 1000000 in
theorem EPre.ofSc{wl:World}{n nw:Int}{f:Value}{O:Nat}{c:Nat→Int}{t0:Nat→Question→Nat}{d0:Nat}(h:ScPre { wl with tape:=t0,drawn:=d0 } n nw f O c) :
  ∃ (N W:Nat) (caps:Array Value),n=N∧nw=W∧f=.func (.func (kf true)) #[] caps∧EPre wl N W true caps O c 3 (outRow c N 0) (outRow c N N):=by
 obtain⟨R,P,v,u,D,A,c3,B1,B2,B3,B4,B5,hV,hS,hd0,hd,hw1,hw8,hn,hl,h0,hc,rfl,hB,HS⟩:=h
 obtain⟨W,rfl⟩:∃ W:Nat,nw=W:=⟨nw.toNat,by omega⟩
 have hbase:=HS _ ⟨rfl,rfl,rfl,Nat.le_refl _,fun _ _ _=>rfl⟩
 have hB':wl.heap[O]? = some (.cells (outRow c (listM R P).length 0) 3 (0,0)):=hB
 have HF:∀ (i:Nat) (W1:World),i<(listM R P).length→ScAt W1 R P v u D A c3 B1 B2 B3 B4 B5 O→Calls Crz.prog 42 #[.int .i64 i,.pointer (some ⟨B1,0,none⟩),.pointer (some ⟨B2,0,none⟩),.pointer (some ⟨B3,0,none⟩),.pointer (some ⟨B4,0,none⟩),.pointer (some ⟨B5,0,none⟩)] W1 fun e w'=>e=.returned (.tuple #[.pointer (some ⟨O,i,none⟩),.int .i64 (c i)])∧Ext W1 w':=fun i W1 hi sa=>by
  have hm:(listM R P)[i]? = some (listM R P)[i]:=List.getElem?_eq_getElem hi
  rw [hc i _ hm]
  exact ScoresF_any R P hV hS _ _ D hd0 hd _ rfl i _ hm W1 _ _ _ _ _ _ c3 A sa.hR sa.hP sa.hM sa.h1 sa.h2 sa.h3 sa.h4 sa.h5 (by omega)
 have hwr:∀ i,i<(listM R P).length→IntKind.i64.wrap (c i)=c i:=fun i hi=>by
  rw [hc i _ (List.getElem?_eq_getElem hi)]
  have hb:=of_bound R (D.toNat-1) (makeM R P (listM R P)[i]) (turn_make hS.turn (listM R P)[i]) (by omega)
  unfold scoreOf
  unfold boundB at hb
  have h1:-2000≤ofM R (D.toNat-1) (makeM R P (listM R P)[i])∧ofM R (D.toNat-1) (makeM R P (listM R P)[i])≤2000:=by omega
  generalize ofM R (D.toNat-1) (makeM R P (listM R P)[i])=z at *
  have h2:-2001≤nearM (-z)∧nearM (-z)≤2001:=by unfold nearM;split <;> (try split) <;> omega
  rw [IntKind.wrap_i64];omega
 refine⟨(listM R P).length,W,_,hn,rfl,rfl,⟨hl,by omega,by omega,⟨B1,B2,B3,B4,B5,rfl,fun _=>⟨h0,hbase.h5.cell 0⟩,fun q=>(by cases q)⟩,hB',fun i hi t=>?_,fun q=>(by cases q),fun t k=>?_,fun _=>⟨rfl,rfl⟩,fun q=>(by cases q)⟩⟩
 ·obtain⟨g1,g2⟩:=ice_same (w0:={ wl with tape:=t0,drawn:=d0 }) (wl:=wl) rfl hB' t
  exact(HF i _ hi (scAt_cong g2 (HS _ g1))).mono fun e w' q=>q.1
 ·have:=eachRest_scores (listM R P).length W _ _ _ _ _ O c { wl with tape:=t,drawn:=k } (by omega) (fun i W1 hi gr=>HF i W1 hi (scAt_cong (w:={ W1 with tape:=t0 }) (w':=W1) (fun a=>rfl) (HS _ ⟨gr.os,rfl,gr.output,gr.size,gr.block⟩))) hB' hwr
  exact this
set_option maxHeartbeats 1000000 in
theorem EPre.ofCt{wl:World}{n nw:Int}{f:Value}{O:Nat}{t0:Nat→Question→Nat}{d0:Nat}(h:CtPre { wl with tape:=t0,drawn:=d0 } n nw f O) :
  ∃ (N W:Nat) (caps:Array Value) (c:Nat→Int) (v1:Int),n=N∧nw=W∧f=.func (.func (kf false)) #[] caps∧EPre wl N W false caps O c 81 #[.int .i64 0] #[.int .i64 v1]:=by
 obtain⟨R,P,v,u,D,A,c3,B1,B2,B3,B4,hV,hS,hd0,hd,hw1,hw8,hn,hl,rfl,hB,HS⟩:=h
 obtain⟨W,rfl⟩:∃ W:Nat,nw=W:=⟨nw.toNat,by omega⟩
 have hB':wl.heap[O]? = some (.cells #[.int .i64 0] 81 (0,0)):=hB
 generalize hL:listM R P=L at *
 have he:∀ {i:Nat} (hi:i<L.length),L.getD i ⟨0,0,0⟩=L[i]:=fun hi=>by simp [hi]
 have HF:∀ (i:Nat) (W1:World),i<L.length→CtAt W1 R P v u D A c3 B1 B2 B3 B4→Calls Crz.prog 38 #[.int .i64 i,.pointer (some ⟨B1,0,none⟩),.pointer (some ⟨B2,0,none⟩),.pointer (some ⟨B3,0,none⟩),.pointer (some ⟨B4,0,none⟩),.pointer (some ⟨O,0,none⟩)] W1 fun e w'=>e=.returned (.tuple #[.pointer (some ⟨O,0,none⟩),.int .i64 (countOf R P D (L.getD i ⟨0,0,0⟩))])∧Ext W1 w':=fun i W1 hi sa=>by
  have hm:L[i]? = some L[i]:=List.getElem?_eq_getElem hi
  rw [he hi]
  have hM:=sa.hM
  have h3:=sa.h3
  rw [hL] at hM h3
  exact CountF_any R P hV hS _ _ D hd0 hd _ hL.symm i _ hm W1 _ _ _ _ _ c3 A sa.hR sa.hP hM sa.h1 sa.h2 h3 sa.h4 (by omega)
 have hs:∀ i,i<L.length→IntKind.i64.wrap (sumOf (countOf R P D) L i+countOf R P D (L.getD i ⟨0,0,0⟩))=sumOf (countOf R P D) L (i+1):=fun i hi=>by
  rw [he hi,sumOf_succ (List.getElem?_eq_getElem hi)]
  have h1:=sumOf_bound (f:=countOf R P D) (fun m=>count_bound) L i
  have h2:=count_bound (R:=R) (P:=P) (D:=D) (m:=L[i])
  generalize sumOf (countOf R P D) L i=y at *
  generalize countOf R P D L[i]=z at *
  rw [IntKind.wrap_i64];omega
 refine⟨L.length,W,_,fun i=>countOf R P D (L.getD i ⟨0,0,0⟩),sumOf (countOf R P D) L L.length,hn,rfl,rfl,⟨hl,by omega,by omega,⟨B1,B2,B3,B4,O,rfl,fun q=>(by cases q),fun _=>rfl⟩,hB',fun i hi t=>?_,fun _ i hi=>count_bound,fun t k=>?_,fun q=>(by cases q),fun _=>⟨rfl,sumOf (countOf R P D) L,rfl,by simp [sumOf],fun i hi=>?_⟩⟩⟩
 ·obtain⟨g1,g2⟩:=ice_same (w0:={ wl with tape:=t0,drawn:=d0 }) (wl:=wl) rfl hB' t
  exact(HF i _ hi (ctAt_cong g2 (HS _ g1))).mono fun e w' q=>q.1
 ·have:=eachRest_count L.length W _ _ _ _ _ O (sumOf (countOf R P D) L) (fun i=>countOf R P D (L.getD i ⟨0,0,0⟩)) { wl with tape:=t,drawn:=k } (by omega) (fun i W1 hi gr=>HF i W1 hi (ctAt_cong (w:={ W1 with tape:=t0 }) (w':=W1) (fun a=>rfl) (HS _ ⟨gr.os,rfl,gr.output,gr.size,gr.block⟩))) (by show wl.heap[O]? = _;rw [hB'];simp [sumOf]) hs
  exact this
 ·show sumOf (countOf R P D) L (i+1)=_+countOf R P D (L.getD i ⟨0,0,0⟩)
  rw [he hi];exact sumOf_succ (List.getElem?_eq_getElem hi)
end Go.Proofs.YtdoibgmmijhlfaaGreat.Sm
namespace Go.Proofs.YtdoibgmmijhlfaaGreat.Sm
open Go Go.Conc Go.ConcN Go.ConcN.Gen Go.RowKit Go.Conc.Lib Go.ConcR.Gen Go.Proofs.YtdoibgmmijhlfaaGreat.Wgk
open Go.ConcR (KK wgBlock WgAt stA smA rd wr DC0 again_blocked)
set_option linter.unusedVariables false
section
variable {wg:Nat}{Stop:Goroutine→World→Prop}
theorem atw_rl{w w₁:World}(h:AtW w w₁):RL 124 wg w w₁:=by obtain⟨d,rfl⟩:=h;exact fun x=>x
theorem goes_narrow:∀ {m:Nat} {g:Goroutine} {w:World},Goes Tryz.prog true (RL 124 wg) DC0 Stop m g w→Goes Tryz.prog true AtW DC0 (fun g w=>∀ w₁,RL 124 wg w w₁→Stop g w₁) m g w
 | m,g,w,h=>by
  induction m generalizing g w with
  | zero=>exact Goes.stop fun w₁ h₁ w₂ h₂=>h w₂ (rl_trans _ _ _ (atw_rl h₁) h₂)
  | succ m ih =>
   rcases h with h | ⟨hs,h⟩
   ·exact Goes.stop fun w₁ h₁ w₂ h₂=>h w₂ (rl_trans _ _ _ (atw_rl h₁) h₂)
   ·refine Goes.step hs fun w₁ h₁=>?_
    have hc:∃ g' w' es,stepG Tryz.prog true g w₁=.go g' w' es∧DC0 w₁ w' es∧Goes Tryz.prog true (RL 124 wg) DC0 Stop m g' w':=by
     have:=h w₁ (atw_rl h₁)
     revert this
     cases stepG Tryz.prog true g w₁ <;> intro q
     case go g' w' es=>exact⟨_,_,_,rfl,q⟩
     all_goals exact q.elim
    obtain⟨g',w',es,e,hd,hg⟩:=hc
    rw [e]
    simp only [goes_go]
    exact⟨hd,ih _ _ hg⟩
end
def J0(hd:Nat→Bool)(N H:Nat)(W:World)(w:World)(t:Trace):Prop:=TS hd N H t∧Deaf t 0=0∧AtW W w
theorem keeps_dc0{hd:Nat→Bool}{N H:Nat}{W:World}:Keeps N DC0 (J0 hd N H W):=by
 refine⟨fun w d t h=>⟨h.1,h.2.1,h.2.2.trans ⟨d,rfl⟩⟩,fun w w' es t fn pos h q=>?_,fun w t u g hg h0 hu h=>⟨h.1.mute hg (fun op hop=>(hu op hop).1) (fun op hop=>(hu op hop).2.1) fun op hop=>(hu op hop).2.2,by rw [Deaf_other t h0 u fun op hop=>(hu op hop).1];exact h.2.1,h.2.2⟩⟩
 obtain⟨rfl,rfl⟩:=q
 rw [tnil];exact h
theorem keeps_pre{hd:Nat→Bool}{N H H':Nat}:Keeps N (DPre H') (fun _ t=>TS hd N H t∧Deaf t 0=0):=by
 refine⟨fun w d t h=>h,fun w w' es t fn pos h q=>?_,fun w t u g hg h0 hu h=>⟨h.1.mute hg (fun op hop=>(hu op hop).1) (fun op hop=>(hu op hop).2.1) fun op hop=>(hu op hop).2.2,by rw [Deaf_other t h0 u fun op hop=>(hu op hop).1];exact h.2⟩⟩
 have:es=#[]:=Array.eq_empty_iff_forall_not_mem.2 fun e he=>q.evs e he
 rw [this,tnil];exact h
section
variable {G:Cx}{ρ:Ren G}{F F':FuncId→Prop}{r ys:Array Value}
theorem rows_int(h:∀ (i:Nat) (x:Value),r[i]? = some x→∃ k,x=.int .i64 k):RW ρ F r r:=⟨rfl,fun i x y a b=>by
 rw [a] at b;cases b
 obtain⟨k,rfl⟩:=h i x a
 exact .int _ _⟩
theorem rows_eq(h:∀ (i:Nat) (x:Value),r[i]? = some x→∃ k,x=.int .i64 k)(hr:RW ρ F r ys):ys=r:=by
 apply Array.ext_getElem?
 intro i
 cases hx:r[i]? with
 | none=>exact hr.none hx
 | some x =>
  obtain⟨y,hy,hv⟩:=hr.get hx
  obtain⟨k,rfl⟩:=h i x hx
  cases hv
  exact hy
theorem out_int{c:Nat→Int}{n k:Nat}:∀ (i:Nat) (x:Value),(outRow c n k)[i]? = some x→∃ z,x=.int .i64 z:=fun i x h=>by
 by_cases hi:i<n
 ·rw [outRow_get c hi] at h;cases h;exact⟨_,rfl⟩
 ·simp [outRow,hi] at h
theorem one_int{z:Int}:∀ (i:Nat) (x:Value),(#[.int .i64 z]:Array Value)[i]? = some x→∃ z,x=.int .i64 z:=fun i x h=>by
 cases i with
 | zero=>simp at h;exact⟨_,h.symm⟩
 | succ i=>simp at h
theorem ptr_rel{a:Nat}{y:Value}(h:VRel ρ F (ptrTo a) y):∃ b,y=ptrTo b∧ρ.rel a b:=by
 cases h with
 | @ptr _ b' hb =>
  obtain⟨B,o,sp⟩:=b'
  obtain⟨k1,k2,k3⟩:=hb
  simp only at k1 k2 k3
  subst k2;subst k3
  exact⟨B,rfl,k1⟩
theorem VRel.toPtr{a b:Nat}(h:ρ.rel a b):VRel ρ F (ptrTo a) (ptrTo b):=.ptr ⟨h,rfl,rfl⟩
end
theorem dsum_s{c s:Nat→Int}{n:Nat}{dn:Nat→Bool}(h0:s 0=0)(hs:∀ i,i<n→s (i+1)=s i+c i)(hd:∀ i,i<n→dn i=true):∀ k,k≤n→dsum c dn k=s k
 | 0,_=>by simp [dsum,h0]
 | k+1,hk=>by
  simp only [dsum]
  rw [dsum_s h0 hs hd k (by omega),hd k (by omega),hs k (by omega)]
  simp
theorem dsum_none{c:Nat→Int}:∀ k,dsum c (fun _=>false) k=0
 | 0=>rfl
 | k+1=>by simp [dsum,dsum_none k]
section
variable {w:World}{n:Int}{fv:Value}
theorem made_heap:(madeW w n fv).heap=(((w.heap.push (.cells #[.int .i64 n] 3)).push (.cells #[fv] 85)).push (.cells #[.int .i64 0] 81)).push (.cells #[.int .u64 0,.int .u32 0] 124):=rfl
theorem made_old{c:Nat}(h:c<w.heap.size):(madeW w n fv).heap[c]? = w.heap[c]?:=by
 simp only [made_heap,Array.getElem?_push,Array.size_push]
 rw [if_neg (by omega),if_neg (by omega),if_neg (by omega),if_neg (by omega)]
theorem made_n:(madeW w n fv).heap[w.heap.size]? = some (.cells #[.int .i64 n] 3):=by
 simp only [made_heap,Array.getElem?_push,Array.size_push]
 rw [if_neg (by omega),if_neg (by omega),if_neg (by omega),if_pos trivial]
theorem made_f:(madeW w n fv).heap[w.heap.size+1]? = some (.cells #[fv] 85):=by
 simp only [made_heap,Array.getElem?_push,Array.size_push]
 rw [if_neg (by omega),if_neg (by omega),if_pos trivial]
theorem made_x:(madeW w n fv).heap[w.heap.size+2]? = some (.cells #[.int .i64 0] 81):=by
 simp only [made_heap,Array.getElem?_push,Array.size_push]
 rw [if_neg (by omega),if_pos trivial]
theorem made_g:(madeW w n fv).heap[w.heap.size+3]? = some (.cells #[.int .u64 0,.int .u32 0] 124):=by
 simp only [made_heap,Array.getElem?_push,Array.size_push]
 rw [if_pos trivial]
theorem made_size:(madeW w n fv).heap.size=w.heap.size+4:=by rw [made_heap];simp
theorem made_grows:Grows w (madeW w n fv):=by
 refine⟨by rw [made_size];omega,fun b xs e z h=>⟨xs,by rw [made_old (Array.getElem?_eq_some_iff.1 h).1];exact h,rfl⟩,fun b a l h=>by rw [made_old (Array.getElem?_eq_some_iff.1 h).1];exact h,rfl,rfl,rfl⟩
end
theorem round_begins{d:Rd}(hd:d.Ok){cs:List Frame}{l:List Nat}{gs:Array Goroutine}{a:Goroutine}{t:Trace}{dd:Nat}(h0:gs[0]? = some a)(hL:Lvs Tryz.prog gs t l)(hg:gs.size=d.g0+1)(hA:AtHead d.wg d.nx d.bn d.bf cs d.nw 0 a)(hT:TS d.hd0 gs.size d.bn t)(hD:Deaf t 0=0)(hG:Grows d.w0 d.wE)
  (hx:d.wE.heap[d.X]? = some (.cells (d.xrow fun _=>false) d.eX d.zX)):RI d cs ⟨0,0,fun _=>0,fun _=>false,fun _=>0⟩ l [] (.spn d.nw) 0 gs ((madeW d.wE d.n d.fv).at dd) t:=by
 have hX:=hd.xlt
 have hlen:l.length=d.g0:=by have:=hL.1;omega
 have hwg:WgAt 124 d.wg ((madeW d.wE d.n d.fv).at dd) 0 0:=made_g
 refine⟨hg,rfl,hlen,hL.2,fun k s hs=>by simp at hs,⟨a,h0,fun w₁ h₁=>?_⟩,hD,rfl,⟨fun c hc _=>made_old hc,made_n,made_f,made_x,(made_old hX).trans hx,⟨_,_,hwg⟩,by show _≤(madeW d.wE d.n d.fv).heap.size;rw [made_size];exact Nat.le_refl _,(hG.trans made_grows).at dd,fun _ _=>rfl⟩,?_,⟨fun _ _=>rfl,fun _=>Nat.zero_le _,fun _=>Nat.zero_le _,fun i hi=>(by cases hi),fun k s c hk=>(by simp at hk),fun i hi=>(by have hi':i<0:=hi;omega),fun k s hk=>(by simp at hk),Nat.zero_le _⟩,⟨rfl,rfl,by simpa [nA] using hwg⟩⟩
 ·have:=eachHead (wg:=d.wg) (nx:=d.nx) (bn:=d.bn) (bf:=d.bf) (cs:=cs) d.nw 0 (Int.le_refl _) (by have:=hd.nw8;omega) a w₁ (by simpa using hA) (h₁ ⟨_,_,hwg⟩)
  exact this
 ·have hT2:TS d.hd gs.size d.bn t:=hT.hide fun b=>by
   by_cases hb:b<d.bn
   ·exact .inl (hd.hd_old hb)
   ·exact .inr (by omega)
  have:=TS.begin (γ:=d.rg ⟨0,0,fun _=>0,fun _=>false,fun _=>0⟩) hT2 hg rfl
  exact this.grow (by show d.wE.heap.size≤(madeW d.wE d.n d.fv).heap.size;rw [made_size];omega)
end Go.Proofs.YtdoibgmmijhlfaaGreat.Sm
namespace Go.Proofs.YtdoibgmmijhlfaaGreat.Sm
open Go Go.Conc Go.ConcN Go.ConcN.Gen Go.RowKit Go.Conc.Lib Go.ConcR.Gen Go.Proofs.YtdoibgmmijhlfaaGreat.Wgk
open Go.ConcR (KK wgBlock WgAt stA smA rd wr DC0 again_blocked)
set_option linter.unusedVariables false
section
variable {R:Ending→World→Prop}{w0 w wl:World}{ρ:Ren cxM}{hd:Nat→Bool}{l:List Nat}{gs:Array Goroutine}{t:Trace}{s0:LS}{c c':Frame}{cs cs':List Frame}{caps caps':Array Value}{n nw O:Nat}{out:Bool}{cf:Nat→Int}{ty:TypeId}{r0 r1:Array Value}{sl:Option (Nat×Nat)}
theorem cell_row{w:World}{b o:Nat}{v:Value}(h:w.cell? ⟨b,o,none⟩=some v):∃ xs e z,w.heap[b]? = some (.cells xs e z)∧xs[o]? = some v:=by
 unfold World.cell? at h
 simp only at h
 split at h
 ·rename_i xs e z hb
  exact⟨xs,_,_,hb,by simpa using h⟩
 ·cases h
theorem find_x(hE:EPre wl n nw out caps O cf ty r0 r1)(hW:WRel ρ (inF famM) wl w)(hcap:RW ρ (inF famM) caps caps'):∃ X,ρ.rel O X:=by
 obtain⟨a1,a2,a3,a4,a5,rfl,h1,h2⟩:=hE.caps5
 obtain⟨y,hy,hv⟩:=hcap.get (i:=4) rfl
 obtain⟨b,rfl,hb⟩:=ptr_rel hv
 cases ho:out with
 | false=>rw [h2 ho] at hb;exact⟨b,hb⟩
 | true =>
  obtain⟨h0,hc⟩:=h1 ho
  obtain⟨xs,e,z,k1,k2⟩:=cell_row hc
  obtain⟨o,o',q1,q2,q3⟩:=hW.objs _ _ hb
  rw [k1] at q1;cases q1
  cases q3 with
  | row hx =>
   rcases hx with hx | ⟨hx,_⟩
   ·have:=(Array.getElem?_eq_some_iff.1 k2).1;omega
   ·obtain⟨y,hy,hv⟩:=hx.get k2
    cases hv with
    | sl _ _ ha=>exact⟨_,ha.blk⟩
    | slz b=>exact absurd h0 (Nat.lt_irrefl 0)
theorem each_leads1(hE:EPre wl n nw out caps O cf ty r0 r1)(h0:gs[0]? = some (gor (Frame.enter Tryz.prog 37 #[.int .i64 n,.int .i64 nw,.func (.func (kf out)) #[] caps'] .normal) (c' :: cs')))(hL:Lvs Tryz.prog gs t l)
  (hLW:LWc R ⟨Frame.enter Crz.prog 37 #[.int .i64 n,.int .i64 nw,.func (.func (kf out)) #[] caps] .normal,c :: cs,wl⟩) (hn:Nx' Crz.prog ⟨Frame.enter Crz.prog 37 #[.int .i64 n,.int .i64 nw,.func (.func (kf out)) #[] caps] .normal,c :: cs,wl⟩ s0)
  (hS:StM ρ (c :: cs) (c' :: cs')) (hW:WRel ρ (inF famM) wl w) (hcap:RW ρ (inF famM) caps caps') (hJ:SJ w0 gs.size ρ hd wl w t):Leads Tryz.prog (crowd gs w sl) t fun m t=>∃ s l,Nx' Crz.prog s s0∧Solo R w0 s l m t:=by
 obtain⟨X,hOX⟩:=find_x hE hW hcap
 obtain⟨o1,o2,p1,p2,p3⟩:=hW.objs O X hOX
 rw [hE.row] at p1;cases p1
 cases p3 with
 | @row _ x0 _ _ zX hx =>
 have hN:0<gs.size:=(Array.getElem?_eq_some_iff.1 h0).1
 obtain⟨d,hd'⟩:∃ d:Sm.Rd,d=⟨w0,w,wl,ρ,hd,gs.size-1,n,nw,out,X,O,ty,zX,x0,cf,caps,caps'⟩:=⟨_,rfl⟩
 have hr0:n≠0→r0.size≠0:=fun hne=>by
  cases ho:out with
  | true=>rw [(hE.sc ho).1];simp [outRow];exact hne
  | false=>rw [(hE.ct ho).1];simp
 have hxr:n≠0→RW ρ (inF famM) r0 x0∧∀ i:Nat,¬ (zX.1≤i∧i<zX.2):=fun hne=>by
  rcases hx with hx | ⟨hx,hz⟩
  ·exact absurd hx (hr0 hne)
  ·exact⟨hx,fun i q=>by have:=hz i q.1 q.2;omega⟩
 have hok:d.Ok:=by
  subst hd'
  exact⟨hE.n_le,hE.nw1,hE.nw8,hW,hOX,⟨x0,p2⟩,⟨r0,ty,_,hE.row⟩,hcap,hE.calls,hJ.vis,hJ.hdlt,hE.bnd,fun hne=>(hxr hne).2⟩
 have hx0:d.wE.heap[d.X]? = some (.cells (d.xrow fun _=>false) d.eX d.zX):=by
  subst hd'
  have:(Sm.Rd.xrow ⟨w0,w,wl,ρ,hd,gs.size-1,n,nw,out,X,O,ty,zX,x0,cf,caps,caps'⟩ fun _=>false)=x0:=by
   unfold Sm.Rd.xrow
   by_cases hne:n=0
   ·exact if_pos hne
   ·rw [if_neg hne]
    obtain⟨k1,_⟩:=hxr hne
    cases ho:out with
    | true =>
     rw [(hE.sc ho).1] at k1
     rw [rows_eq out_int k1,if_pos rfl]
     simp [outRow]
    | false =>
     rw [(hE.ct ho).1] at k1
     rw [rows_eq one_int k1]
     simp [dsum_none]
  rw [this];exact p2
 refine(alone_goes (keeps_pre (hd:=hd) (N:=gs.size) (H:=w.heap.size) (H':=w.heap.size)) (fun g w q=>by obtain⟨⟨T,_,_,_,_,_,_,_,rfl⟩,_⟩:=q;rfl) h0 hL rfl (eachStart (cs:=c' :: cs') (w0:=w) (n:=n) (k:=nw) (fid:=kf out) (cap:=caps')) ⟨hJ.ts,hJ.deaf⟩).then ?_
 rintro m t2 ⟨gs2,w2,sl2,a2,l2,rfl,e0,eL,eN,⟨hA,dd,rfl⟩,eT,eD⟩
 have hRI:RI d (c' :: cs') ⟨0,0,fun _=>0,fun _=>false,fun _=>0⟩ l2 [] (.spn d.nw) 0 gs2 ((madeW d.wE d.n d.fv).at dd) t2:=by
  subst hd'
  exact round_begins hok e0 eL (by rw [eN];show gs.size=gs.size-1+1;omega) hA (by rw [eN];exact eT) eD hJ.grows hx0
 have hmw:(madeW d.wE d.n d.fv).at dd=(madeW w n (.func (.func (kf out)) #[] caps')).at dd:=by subst hd';rfl
 rw [← hmw]
 refine(round_ends hok hRI).then ?_
 rintro m t3 ⟨gs3,w3,sl3,l3,a3,h3,gb,rfl,f0,fL,fN,⟨m3,fG⟩,fR,fT,fD,fW,fA⟩
 have liveAt:∀ {w4:World},AtW w3 w4→WgLive 124 d.wg w4:=fun q=>atw_rl q fW.live
 have hgb:gb.status=.running:=by
  obtain⟨m,h⟩:=fR w3 fW.live
  exact Goes.running (fun _ _ x=>x.1) w3 (fun x=>x) h
 refine(alone_goes (keeps_dc0 (hd:=d.hd) (N:=gs3.size) (H:=w3.heap.size) (W:=w3)) (fun g w q=>by rw [q w fun x=>x];exact hgb) f0 fL rfl (goes_narrow fG) ⟨fT,fD,AtW.refl _⟩).then ?_
 rintro m t4 ⟨gs4,w4,sl4,a4,l4,rfl,g0,gL,gN,gS,gT,gD,gW⟩
 obtain rfl:a4=gb:=gS w4 fun x=>x
 obtain⟨m4,hR4⟩:=fR w4 (liveAt gW)
 refine(alone_goes (keeps_dc0 (hd:=d.hd) (N:=gs3.size) (H:=w3.heap.size) (W:=w3)) (fun g w q=>(q w fun x=>x).1) g0 gL gN (goes_narrow hR4) ⟨gT,gD,gW⟩).then ?_
 rintro m t5 ⟨gs5,w5,sl5,a5,l5,rfl,i0,iL,iN,iS,iT,iD,iW⟩
 have hrun5:a5.status=.running:=(iS w5 fun x=>x).1
 have one:Goes Tryz.prog true AtW DC0 (fun g _=>g=gor (c'.finish (.tuple #[])) cs') 1 a5 w5:=Goes.step hrun5 fun w₁ h₁=>by
  have:=(iS w₁ (atw_rl h₁)).2 c' cs' rfl
  rw [this]
  simp only [goes_go]
  exact⟨⟨rfl,rfl⟩,Goes.stop fun _ _=>rfl⟩
 refine(alone_goes (keeps_dc0 (hd:=d.hd) (N:=gs3.size) (H:=w3.heap.size) (W:=w3)) (fun g w q=>by rw [q];rfl) i0 iL iN one ⟨iT,iD,iW⟩).then ?_
 rintro m t6 ⟨gs6,w6,sl6,a6,l6,rfl,j0,jL,jN,rfl,jT,jD,jW⟩
 rw [each_enter] at hLW
 obtain⟨a,q1,n1⟩:=hLW.ask false
 change LWc R ⟨fr0 37 #[.int .i64 n,.int .i64 nw,.func (.func (kf out)) #[] caps,.bool false,undef,undef,undef,undef,undef,undef,undef,undef,undef,undef,undef] [.code restE] .run,c :: cs,{ wl with tape:=fun _ _=>a,drawn:=wl.drawn+1 }⟩ at q1
 change Nx' Crz.prog ⟨fr0 37 #[.int .i64 n,.int .i64 nw,.func (.func (kf out)) #[] caps,.bool false,undef,undef,undef,undef,undef,undef,undef,undef,undef,undef,undef] [.code restE] .run,c :: cs,{ wl with tape:=fun _ _=>a,drawn:=wl.drawn+1 }⟩ _ at n1
 obtain⟨rv,w',⟨hrv,hO',hgr⟩,q2,n2⟩:=LW.rest Crz.func37 (fun e w q=>⟨_,q.1⟩) (hE.rest _ _) q1
 cases hrv
 rw [each_enter] at hn
 refine .here ⟨⟨c.finish (.tuple #[]),cs,w'⟩,l6,Relation.TransGen.trans (.single n2) (n1.trans hn),gs6,w6,sl6,ρ,_,_,d.hd,rfl,j0,jL,⟨?_,?_,q2.good,q2.will⟩,?_⟩
 ·exact hS.top (Ren.le_refl _) (hS.head.finish (.tuple rfl fun i x y hx=>by simp at hx)) (finish_fn _ _)
 ·obtain⟨dd2,rfl⟩:=jW
  have fx:=fW.x
  have fold:=fW.old
  subst hd'
  refine⟨fun b e hr=>?_,Nat.le_trans hW.base hgr.size⟩
  by_cases hb:b=O
  ·subst hb
   obtain rfl:e=X:=ρ.fn _ _ _ hr hOX
   refine⟨_,_,hO',fx,.row ?_⟩
   by_cases hne:n=0
   ·cases ho:out with
    | true=>left;rw [(hE.sc ho).2,hne];rfl
    | false =>
     right
     obtain⟨k1,s,k2,k3,_⟩:=hE.ct ho
     have he:r1=r0:=by rw [k1,k2,hne,k3]
     have hxx:Sm.Rd.xrow ⟨w0,w,wl,ρ,hd,gs.size-1,n,nw,out,e,b,ty,zX,x0,cf,caps,caps'⟩ h3.dn=x0:=if_pos hne
     rw [← ho,hxx,he]
     rcases hx with hx | hx
     ·rw [k1] at hx;cases hx
     ·exact hx
   ·right
    refine⟨?_,fun i a b=>absurd ⟨a,b⟩ ((hxr hne).2 i)⟩
    have he:Sm.Rd.xrow ⟨w0,w,wl,ρ,hd,gs.size-1,n,nw,out,e,b,ty,zX,x0,cf,caps,caps'⟩ h3.dn=r1:=by
     unfold Sm.Rd.xrow
     rw [if_neg hne]
     cases ho:out with
     | true =>
      rw [(hE.sc ho).2,if_pos rfl]
      unfold outRow
      congr 1
      refine List.map_congr_left fun i hi=>?_
      have hi':i<n:=List.mem_range.1 hi
      have hdi:h3.dn i=true:=fA i hi'
      rw [hdi,if_pos rfl,if_pos hi']
     | false =>
      obtain⟨k1,s,k2,k3,k4⟩:=hE.ct ho
      rw [k2,if_neg (by simp)]
      show #[Value.int .i64 (dsum cf h3.dn n)]=_
      rw [dsum_s k3 k4 fA n (Nat.le_refl _)]
    rw [he]
    cases ho:out with
    | true=>rw [(hE.sc ho).2];exact rows_int out_int
    | false =>
     obtain⟨k1,s,k2,_⟩:=hE.ct ho
     rw [k2];exact rows_int one_int
  ·obtain⟨o,o',u1,u2,u3⟩:=hW.objs b e hr
   have hlb:=(Array.getElem?_eq_some_iff.1 u1).1
   have heX:e≠X:=fun q=>hb (ρ.inj _ _ _ (q ▸ hr) hOX)
   refine⟨o,o',(hgr.block b hlb fun q=>hb (Option.some.inj q)).trans u1,(fold e (hW.lt hr) heX).trans u2,u3⟩
 ·obtain⟨dd2,rfl⟩:=jW
  have hvis:∀ b e,ρ.rel b e→d.hd e=false:=fun b e hr=>by
   have hlt:e<d.bn:=by subst hd';exact hW.lt hr
   rw [hok.hd_old hlt]
   subst hd'
   exact hJ.vis b e hr
  have hsz:r0.size=r1.size:=by
   cases ho:out with
   | true=>rw [(hE.sc ho).1,(hE.sc ho).2];simp [outRow]
   | false =>
    obtain⟨k1,s,k2,_⟩:=hE.ct ho
    rw [k1,k2];rfl
  have fx:=fW.x
  have fold:=fW.old
  refine⟨by rw [jN];exact jT,jD,hvis,fun e he=>fW.hd_lt hok he,by have:=fW.grows.at dd2;subst hd';exact this,fun e he=>?_,?_⟩
  ·have hlt:e<w.heap.size:=Nat.lt_of_lt_of_le he hJ.grows.size
   by_cases hX:e=X
   ·subst hX
    by_cases h00:r0.size=0
    ·have hn0:n=0:=Classical.byContradiction fun q=>hr0 q h00
     have hxx:w3.heap[e]? = some (.cells x0 ty zX):=by
      subst hd'
      have:Sm.Rd.xrow ⟨w0,w,wl,ρ,hd,gs.size-1,n,nw,out,e,O,ty,zX,x0,cf,caps,caps'⟩ h3.dn=x0:=if_pos hn0
      rw [this] at fx
      exact fx
     show w3.heap[e]? = _
     rw [hxx,← p2];exact hJ.old e he
    ·exact absurd ⟨O,r0,ty,(0,0),hOX,hE.row,by omega,by simp⟩ (hJ.fz e 0 he)
   ·subst hd'
    exact(fold e hlt hX).trans (hJ.old e he)
  ·rintro e o he ⟨b,xs,e',z,hr,h1,h2,h3⟩
   by_cases hb:b=O
   ·subst hb
    rw [hO'] at h1;cases h1
    exact hJ.fz e o he ⟨b,r0,ty,(0,0),hr,hE.row,by omega,h3⟩
   ·obtain⟨q1,_,u1,_,_⟩:=hW.objs b e hr
    have hlb:=(Array.getElem?_eq_some_iff.1 u1).1
    exact hJ.fz e o he ⟨b,xs,e',z,hr,(hgr.block b hlb fun q=>hb (Option.some.inj q)).symm.trans h1,h2,h3⟩
theorem each_leads(hR:GoodR R){m:Machine}(h:AtCall R w0 37 3 s0 m t):Leads Tryz.prog m t fun m t=>∃ s l,Nx' Crz.prog s s0∧Solo R w0 s l m t:=by
 obtain⟨gs,w,sl,ρ,l,hd,c,cs,c',cs',xs,ys,wl,rfl,h0,hL,hLW,hn,hS,hW,hxs,hrow,hJ⟩:=h
 obtain⟨x,y,f,rfl⟩:=arr3 hxs
 obtain⟨x',y',f',rfl⟩:=arr3 (hrow.size ▸ hxs)
 have v1:VRel ρ F2 x x':=hrow.at_ 0 x x' rfl rfl
 have v2:VRel ρ F2 y y':=hrow.at_ 1 y y' rfl rfl
 have v3:VRel ρ F2 f f':=hrow.at_ 2 f f' rfl rfl
 obtain⟨t0,d0,r⟩:=each_panics hR.out hLW
 have key:∃ (n nw:Nat) (out:Bool) (caps:Array Value) (O:Nat) (cf:Nat→Int) (ty:TypeId) (r0 r1:Array Value),x=.int .i64 n∧y=.int .i64 nw∧f=.func (.func (kf out)) #[] caps∧EPre wl n nw out caps O cf ty r0 r1:=by
  rcases hR.says _ _ r with ⟨n,nw,g,O,cf,e,hp⟩ | ⟨n,nw,g,O,e,hp⟩ | ⟨p,e,_⟩
  ·have e2:x=.int .i64 n∧y=.int .i64 nw∧f=g:=by simpa [markV] using e
   obtain⟨N,W,caps,rfl,rfl,rfl,hE⟩:=EPre.ofSc hp
   exact⟨N,W,true,caps,O,cf,_,_,_,e2.1,e2.2.1,e2.2.2,hE⟩
  ·have e2:x=.int .i64 n∧y=.int .i64 nw∧f=g:=by simpa [markV] using e
   obtain⟨N,W,caps,cf,v1,rfl,rfl,rfl,hE⟩:=EPre.ofCt hp
   exact⟨N,W,false,caps,O,cf,_,_,_,e2.1,e2.2.1,e2.2.2,hE⟩
  ·simp [markL] at e
 obtain⟨n,nw,out,caps,O,cf,ty,r0,r1,rfl,rfl,rfl,hE⟩:=key
 cases v1
 cases v2
 cases v3 with
 | @func _ _ ys _ caps' hf k1 k2 k3 k4 =>
  have hys:ys=#[]:=Array.eq_empty_of_size_eq_zero (by simpa using k1.symm)
  subst hys
  have hcap:RW ρ (inF famM) caps caps':=⟨k3,fun i a b ha hb=>by
   obtain⟨a1,a2,a3,a4,a5,rfl,_⟩:=hE.caps5
   have hp:∃ z,a=ptrTo z:=by
    match i,ha with
    | 0,ha=>cases ha;exact⟨_,rfl⟩
    | 1,ha=>cases ha;exact⟨_,rfl⟩
    | 2,ha=>cases ha;exact⟨_,rfl⟩
    | 3,ha=>cases ha;exact⟨_,rfl⟩
    | 4,ha=>cases ha;exact⟨_,rfl⟩
    | i+5,ha=>simp at ha
   obtain⟨z,rfl⟩:=hp
   obtain⟨z',rfl,hz⟩:=ptr_rel (k4 i _ _ ha hb)
   exact .toPtr hz⟩
  exact each_leads1 hE h0 hL hLW hn hS hW hcap hJ
end
end Go.Proofs.YtdoibgmmijhlfaaGreat.Sm
namespace Go.Proofs.YtdoibgmmijhlfaaGreat.Sm
open Go Go.Conc Go.ConcN
set_option linter.unusedVariables false
section
variable {R:Ending→World→Prop}{w0:World}
theorem solo_ends(hR:GoodR R){s:LS}(hA:Acc (Nx' Crz.prog) s):∀ {l:List Nat} {m:Machine} {t:Trace},Solo R w0 s l m t→Leads Tryz.prog m t fun m t=>∃ s2 l2,(s2=s∨Nx' Crz.prog s2 s)∧Solo R w0 s2 l2 m t∧s2.cs=[]∧s2.fr.mode≠.run:=by
 induction hA with
 | intro s _ ih =>
  intro l m t h
  refine(solo_runs h).then fun m2 t2 hx=>?_
  have more:(∃ s1 l1,Nx' Crz.prog s1 s∧Solo R w0 s1 l1 m2 t2)→Leads Tryz.prog m2 t2 fun m t=>∃ s2 l2,(s2=s∨Nx' Crz.prog s2 s)∧Solo R w0 s2 l2 m t∧s2.cs=[]∧s2.fr.mode≠.run:=by
   rintro⟨s1,l1,hn,h1⟩
   refine(ih s1 hn h1).then fun m3 t3=>?_
   rintro⟨s2,l2,h2,h3⟩
   exact .here ⟨s2,l2,.inr (h2.elim (fun e=>e ▸ hn) fun q=>q.trans hn),h3⟩
  rcases hx with ⟨s2,l2,h2,h3,h4,h5⟩ | hx | hx
  ·exact .here ⟨s2,l2,h2,h3,h4,h5⟩
  ·exact(each_leads hR hx).then fun m3 t3 q=>by
    obtain⟨s1,l1,hn,h1⟩:=q
    refine(ih s1 hn h1).then fun m4 t4=>?_
    rintro⟨s2,l2,h2,h3⟩
    exact .here ⟨s2,l2,.inr (h2.elim (fun e=>e ▸ hn) fun q=>q.trans hn),h3⟩
  ·exact(load_leads hR hx).then fun m3 t3 q=>by
    obtain⟨s1,l1,hn,h1⟩:=q
    refine(ih s1 hn h1).then fun m4 t4=>?_
    rintro⟨s2,l2,h2,h3⟩
    exact .here ⟨s2,l2,.inr (h2.elim (fun e=>e ▸ hn) fun q=>q.trans hn),h3⟩
theorem shape_base{fr fr1 fr' fr1':Frame}{cs cs1 cs' cs1':List Frame}(h:Shape fr cs fr1 cs1 fr' cs' fr1' cs1'):(lastF fr1 cs1).fn=(lastF fr cs).fn:=by
 rcases h with ⟨rfl,_,h,_⟩ | ⟨rfl,_⟩ | ⟨c,c',rfl,_,⟨v,v',rfl,_⟩ | ⟨ch,ch',rfl,_⟩⟩
 ·cases cs1 with
  | nil=>exact h.1
  | cons c cs=>rfl
 ·rfl
 ·cases cs1 with
  | nil=>exact finish_fn _ _
  | cons c cs=>rfl
 ·cases cs1 with
  | nil=>exact raise_fn _ _
  | cons c cs=>rfl
theorem base_follow{t:TapeT}:∀ (n:Nat) {fr fr2:Frame} {cs cs2:List Frame} {w w2:World},Good Crz.prog fam cx0 ⟨fr,cs,w⟩→Will Crz.prog R fr cs w→runN Crz.prog n (lone fr (cs++[c0]) (w.taped t))=.next (lone fr2 (cs2++[c0]) w2)→(lastF fr2 cs2).fn=(lastF fr cs).fn
 | 0,fr,fr2,cs,cs2,w,w2,hs,h,hr=>by
  obtain⟨rfl,rfl,rfl⟩:=lone_inj (Stepped.next.inj hr)
  rfl
 | n+1,fr,fr2,cs,cs2,w,w2,hs,h,hr=>by
  have hb:fr.mode=.run∨cs≠[]:=will_mode pL hs h fun hc hm=>by
   subst hc
   exact base_stops pL hs rfl hm _ (n+1) (by omega) _ _ _ hr
  cases h with
  | leaf t' hm h r=>exact absurd hr (base_stops pL hs rfl hm _ (n+1) (by omega) _ _ _)
  | step nx h k =>
   obtain⟨es,hes⟩:=h t
   obtain⟨hg,ht⟩:=will_next (s:=⟨fr,cs,w⟩) (s1:=⟨(nx t).1,(nx t).2.1,(nx t).2.2⟩) pL hs hb hes
   have e:=will_lone hes
   simp only [runN,e] at hr
   simp only at ht
   have h1:=base_follow n hg (k t) (by rw [ht];exact hr)
   obtain⟨σ,fr',cs',w',hS,hw⟩:=hs
   obtain⟨w3,q1,q2⟩:=hw.taped t
   have e2:=hes true []
   simp only [List.append_nil] at e2
   obtain⟨τ,fr1,cs1,fr1',cs1',u',fs,hgq,_,hA,hB,hSh⟩:=sim_step pL hS hb not_atSp q1 q2 e2
   have e3:(nx t).1=fr1∧(nx t).2.1=cs1:=by
    have:=congrArg (fun g:Goroutine=>(g.frame,g.callers)) hgq
    exact⟨congrArg Prod.fst this,congrArg Prod.snd this⟩
   rw [h1,e3.1,e3.2]
   exact shape_base hSh
theorem LW.base{s s1:LS}(n:Nx' Crz.prog s1 s):LWc R s→LWc R s1∧(lastF s1.fr s1.cs).fn=(lastF s.fr s.cs).fn:=by
 induction n with
 | single n =>
  intro h
  obtain⟨t,k,hr⟩:=n
  exact⟨(h.run pL hr).1,base_follow (k+1) h.good h.will hr⟩
 | tail hab hbc ih =>
  intro h
  obtain⟨t,k,hr⟩:=hbc
  obtain⟨h1,h2⟩:=ih (h.run pL hr).1
  exact⟨h1,h2.trans (base_follow (k+1) h.good h.will hr)⟩
theorem Ends.step{P:Program}{Q:Machine→Outcome→World→Trace→Prop}{m m':Machine}{t ops:Trace}(hs:stepT P m=(.next m',ops))(h:Ends P m' (t++ops) Q):Ends P m t Q :=
 Leads.ends (Q':=Q) ⟨1,m',t++ops,by rw [runNT_succ_next hs];rfl,rfl,rfl⟩ (Q:=fun m2 t2=>m2=m'∧t2=t++ops) fun m2 t2 q=>by rw [q.1,q.2];exact h
theorem end_leavers{a:Goroutine}{hd:Nat→Bool}{H:Nat}{v:Value}{post:World→Prop}(ha:a.status=.running)(hst:∀ w,stepG Tryz.prog true a w=.ended (.done v) w #[])(hat:∀ w d,post w→post (w.at d))(l:List Nat) :
  ∀ (gs:Array Goroutine) (w:World) (sl:Option (Nat×Nat)) (t:Trace),gs[0]? = some a→Lvs Tryz.prog gs t l→TS hd gs.size H t→post w→Ends Tryz.prog (crowd gs w sl) t (Go.Conc.Good Tryz.prog fun x w=>x=v∧post w):=by
 induction l using (low1_wf Nat.lt_wfRel.wf).induction with
 | _ l ih =>
  intro gs w sl t h0 hL hT hp
  obtain⟨i,g,d,sl',hi,hir,hs⟩:=hL.pick (w:=w) (sl:=sl) h0 ha
  cases i with
  | zero =>
   rw [h0] at hi;cases hi
   have hr:=runT_crowd_ended (sl:=sl') h0 (show stepG Tryz.prog (0 == 0) a (w.at d)=.ended (.done v) (w.at d) #[] from hst _)
   refine Ends.last (hs.trans hr) ?_
   rw [tnil]
   refine⟨v,rfl,⟨rfl,hat w d hp⟩,hT.nr,handed_of hT.hand,⟨fun g hg=>?_,rfl⟩,fun i g hg hi0=>?_⟩
   ·obtain⟨k,hk⟩:=List.mem_iff_getElem?.1 hg
    rw [List.getElem?_drop] at hk
    have hk2:gs[k+1]? = some g:=by
     have:gs.toList[1+k]? = some g:=hk
     rw [Nat.add_comm] at this
     simpa using this
    obtain⟨q,_,hq⟩:=hL.get hk2
    exact⟨q,hq.leaves⟩
   ·obtain⟨k,rfl⟩:∃ k,i=k+1:=⟨i-1,by omega⟩
    obtain⟨q,_,hq⟩:=hL.get (show gs[k+1]? = some g from hg)
    exact⟨q,hq.hears _⟩
  | succ i =>
   obtain⟨g',es,l',hm,e1,e2,e3,e4⟩:=hL.leave (w:=w.at d) (sl:=sl') h0 ha hi hir
   have hmu:=mute_ops (g:=i+1) (fn:=g.frame.fn) (pos:=g.frame.place) hm
   refine Ends.step (hs.trans e1) (ih l' e3 _ _ _ _ e4 e2 ?_ (hat w d hp))
   rw [Array.size_setIfInBounds]
   exact hT.mute (Array.getElem?_eq_some_iff.1 hi).1 (fun op hop=>(hmu op hop).1) (fun op hop=>(hmu op hop).2.1) fun op hop=>(hmu op hop).2.2
structure Lawful(f0:FuncId)(fn:Func)(k:Nat):Prop where
 fc:Crz.prog.funcs[f0]? = some fn
 ft:Tryz.prog.funcs[f0]? = some fn
 res:fn.results=#[.tmp k]
 live:deadM f0 k=false
 ini:Tryz.prog.inits.idxOf? f0=none
theorem leaf_ends{f0:FuncId}{fn:Func}{k:Nat}(hF:Lawful f0 fn k)(hR:GoodR R){v:Value}(hv:∀ w,∀ x,R (.returned x) w→x=.bool true){s:LS}{l:List Nat}{m:Machine}{t:Trace}(h:Solo R w0 s l m t)(hc:s.cs=[])(hm:s.fr.mode≠.run)(hb:s.fr.fn=f0) :
  Ends Tryz.prog m t (Go.Conc.Good Tryz.prog fun v w=>v=.bool true∧Grows w0 w∧∀ c,c<w0.heap.size→w.heap[c]? = w0.heap[c]?):=by
 obtain⟨gs,w,sl,ρ,fr',cs',hd,rfl,h0,hL,hC,hJ⟩:=h
 obtain⟨tp,e,hle,hr⟩:=LW.leaf ⟨hC.good,hC.will⟩ hc hm
 obtain⟨fr,cs,wl⟩:=s
 replace hc:cs=[]:=hc
 subst hc
 have hS:StRel Crz.prog Tryz.prog famM famM deadM SpM ρ (fr :: []) (fr' :: cs'):=hC.st
 cases hS with
 | base hFr =>
 cases hFr with
 | @mk f ts ts' ht kk kk' hk mo mo' hmo =>
 obtain rfl:f=f0:=hb
 cases hmo with
 | run=>exact absurd rfl hm
 | panicking hp =>
  exfalso
  cases e with
  | returned x=>cases hle.1
  | outgrown=>exact hR.out _ hr
  | panicked ch =>
   obtain⟨e1,_⟩:=hle
   obtain rfl:=FrameMode.panicking.inj e1
   rcases hR.says _ _ hr with ⟨n,nw,g,O,c,q,_⟩ | ⟨n,nw,g,O,q,_⟩ | ⟨p,q,_⟩
   all_goals
    simp only [List.cons.injEq,and_true,PanicEntry.mk.injEq] at q
    obtain⟨rfl,_⟩:=q
    cases hp with
    | iface t ht' _=>exact absurd ht' (by simp [cxM])
 | returning =>
  cases e with
  | panicked ch=>cases hle.1
  | outgrown=>exact absurd hr (hR.out _)
  | returned x =>
   obtain⟨_,_,_,fn',hf',hres⟩:=hle
   replace hf':Crz.prog.funcs[f]? = some fn':=hf'
   rw [hF.fc] at hf';cases hf'
   have hx:=hv _ _ hr
   subst hx
   have hq:=results_tmp (P:=Crz.prog) hF.res ts (wl.taped tp)
   replace hres:(results fn ts).run Crz.prog (wl.taped tp)=_:=hres
   rw [hq] at hres
   have htk:ts.getD k undef=.bool true:=(Result.ok.inj hres).1
   have hrel:=ht.getD k hF.live (VRel.undef (ρ:=ρ) (F:=inF famM))
   rw [htk] at hrel
   have htk':ts'.getD k undef=.bool true:=by
    generalize ts'.getD k undef=y at hrel
    cases hrel;rfl
   have hst:∀ w,stepG Tryz.prog true (gor (fr0 f ts' kk' .returning) []) w=.ended (.done (.bool true)) w #[]:=fun w=>by
    have h1:=results_tmp (P:=Tryz.prog) hF.res ts' w
    rw [htk'] at h1
    have h2:=events_results_tmp (P:=Tryz.prog) (w:=w) hF.res ts' #[]
    have hi:=hF.ini
    simp at hi
    simp [gor,fr0,stepG,unwind,doReturn,hF.ft,h1,h2,hi,seen_none,GStep.after]
   have hend:=end_leavers (a:=gor (fr0 f ts' kk' .returning) []) (post:=fun w=>Grows w0 w∧∀ c,c<w0.heap.size→w.heap[c]? = w0.heap[c]?) rfl hst (fun w d q=>⟨q.1.at d,q.2⟩) l gs w sl t h0 hL hJ.ts ⟨hJ.grows,hJ.old⟩
   exact hend
end
theorem t0_get(i:Nat):(#[]:Trace)[i]? = none:=by simp
theorem t0_g(i:Nat):Trace.g? #[] i=none:=by simp [Trace.g?]
theorem t0_act(i:Nat):Trace.act? #[] i=none:=by simp [Trace.act?]
theorem t0_touch(i:Nat):touchAt #[] i=none:=by simp [touchAt,t0_act]
theorem ts_empty(hd:Nat→Bool)(N H:Nat):TS hd N H #[] where
 kn:=fun k a i h=>by rw [t0_touch] at h;cases h
 nr:=fun said h=>by
  obtain⟨i,j,_,⟨a,b,h1,_⟩,_⟩:=h
  rw [t0_act] at h1;cases h1
 hand:=fun i g h=>by rw [t0_g] at h;cases h
 norel:=fun i a h=>by rw [t0_act] at h;cases h
 gs:=fun i op h=>by rw [t0_get] at h;cases h
 bd:=fun i a ad h=>by rw [t0_touch] at h;cases h
theorem glob_le(W:World):cxM.glob≤W.heap.size:=by
 have h:cxM.glob=0:=by kernel_rfl
 omega
theorem law_runs{R:Ending→World→Prop}{f0:FuncId}{fn:Func}{k:Nat}(hF:Lawful f0 fn k)(hR:GoodR R)(hv:∀ w,∀ x,R (.returned x) w→x=.bool true)(hf:famM f0=true)(hf2:fam f0=true){W:World}{xs ys:Array Value}
  (hg:cxM.glob≤W.heap.size) (hxs:∀ F,RW (ren0 cxM W) F xs ys) (H:∀ t,Calls Crz.prog f0 xs ((lonW cxM W).taped t) R) :
  ∃ M last o w' t',runNT Tryz.prog (M+1) (solo (G (Frame.enter Tryz.prog f0 ys .normal) []) W) #[]=(.ended o w',t')∧runN Tryz.prog M (solo (G (Frame.enter Tryz.prog f0 ys .normal) []) W)=.next last ∧
   step Tryz.prog last=.ended o w'∧Go.Conc.Good Tryz.prog (fun v w=>v=.bool true∧Grows W w∧∀ c,c<W.heap.size→w.heap[c]? = W.heap[c]?) last o w' t':=by
 have hgood:Good Crz.prog fam cx0 ⟨Frame.enter Crz.prog f0 xs .normal,[],lonW cxM W⟩:=good_enter (p':=Crz.prog) (fb':=fam) (sb:=fam) pL (G:=cxM) rfl (fun _ _=>rfl) hf2 (lon_rel hg) (hxs _)
 have hLW:LWc R ⟨Frame.enter Crz.prog f0 xs .normal,[],lonW cxM W⟩:=⟨hgood,will_of_calls pL hgood hR.out H⟩
 have hco:CoM R (ren0 cxM W) ⟨Frame.enter Crz.prog f0 xs .normal,[],lonW cxM W⟩ (Frame.enter Tryz.prog f0 ys .normal) [] W:=⟨.base (enter_rel pair_main hf (hxs _)),lon_rel hg,hgood,hLW.will⟩
 have hsolo:Solo R W ⟨Frame.enter Crz.prog f0 xs .normal,[],lonW cxM W⟩ [] (solo (G (Frame.enter Tryz.prog f0 ys .normal) []) W) #[] :=
  ⟨#[gor (Frame.enter Tryz.prog f0 ys .normal) []],W,none,ren0 cxM W,_,[],fun _=>false,rfl,rfl,⟨rfl,fun k q h=>by simp at h⟩,hco,
   ⟨ts_empty _ _ _,rfl,fun _ _ _=>rfl,(fun c h=>(by cases h)),Grows.refl W,fun _ _=>rfl,fun c o _=>lon_fz⟩⟩
 have hl:=solo_ends hR (LW.acc hLW).transGen hsolo
 have he:=hl.ends (Q':=Go.Conc.Good Tryz.prog fun v w=>v=.bool true∧Grows W w∧∀ c,c<W.heap.size→w.heap[c]? = W.heap[c]?) fun m t q=>by
  obtain⟨s2,l2,h2,h3,h4,h5⟩:=q
  have hb:s2.fr.fn=f0:=by
   rcases h2 with rfl | h2
   ·exact rfl
   ·have:=(LW.base h2 hLW).2
    rw [h4] at this
    exact this.trans rfl
  exact leaf_ends hF hR (v:=.bool true) hv h3 h4 h5 hb
 exact he
end Go.Proofs.YtdoibgmmijhlfaaGreat.Sm
