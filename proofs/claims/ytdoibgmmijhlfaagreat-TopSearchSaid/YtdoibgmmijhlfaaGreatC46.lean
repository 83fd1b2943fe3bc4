/- SimF SimG SimH SimT2 SimW SimD SimC SimE SimZ SimA SimK SimJ SimI SimM SimO SimAA CzB -/
import Derived.Test.YtdoibgmmijhlfaaGreatC45
import Derived.Conc.Listed
import Derived.Conc.CrowdTrace
import Derived.Conc.Machine
import Derived.Conc.Crowd
import Derived.Conc.QuitsD
import Derived.Test.YtdoibgmmijhlfaaGreatC00
import Derived.Deep.Slices
namespace Go.Proofs.YtdoibgmmijhlfaaGreat.Sm
open Go
set_option linter.unusedVariables false
def fr0(f:FuncId)(tmps:Array Value)(todo:List Item)(m:FrameMode):Frame:={ fn:=f,tmps,todo,defers:=[],mode:=m,kind:=.normal,roundOf:=none }
def gor(fr:Frame)(cs:List Frame):Goroutine:={ frame:=fr,callers:=cs,status:=.running,dying:=none }
section
variable (q:Program)(main:Bool)(f:FuncId)(ts:Array Value)(k:List Item)(cs:List Frame)(w:World)
theorem c_nil:stepG q main (gor (fr0 f ts [] .run) cs) w=.go (gor (fr0 f ts [] .returning) cs) w #[]:=rfl
theorem c_ret:stepG q main (gor (fr0 f ts (.code .ret :: k) .run) cs) w=.go (gor (fr0 f ts (.code .ret :: k) .returning) cs) w #[]:=rfl
theorem c_skip:stepG q main (gor (fr0 f ts (.code .skip :: k) .run) cs) w=.go (gor (fr0 f ts k .run) cs) w #[]:=rfl
theorem c_inBlock(id:Nat):stepG q main (gor (fr0 f ts (.inBlock id :: k) .run) cs) w=.go (gor (fr0 f ts k .run) cs) w #[]:=rfl
theorem c_seq(a b:Code):stepG q main (gor (fr0 f ts (.code (.seq a b) :: k) .run) cs) w=.go (gor (fr0 f ts (.code a :: .code b :: k) .run) cs) w #[]:=rfl
theorem c_block(id:Nat)(b:Code):stepG q main (gor (fr0 f ts (.code (.block id b) :: k) .run) cs) w=.go (gor (fr0 f ts (.code b :: .inBlock id :: k) .run) cs) w #[]:=rfl
theorem c_loop(b:Code):stepG q main (gor (fr0 f ts (.code (.loop b) :: k) .run) cs) w=.go (gor (fr0 f ts (.code b :: .inLoop b :: k) .run) cs) w #[]:=rfl
theorem c_inLoop(b:Code):stepG q main (gor (fr0 f ts (.inLoop b :: k) .run) cs) w=.go (gor (fr0 f ts (.code b :: .inLoop b :: k) .run) cs) w #[]:=rfl
theorem c_cond(c:Operand)(a b:Code)(t:Bool)(h:(fr0 f ts (.code (.cond c a b) :: k) .run).eval c=.bool t) :
  stepG q main (gor (fr0 f ts (.code (.cond c a b) :: k) .run) cs) w=.go (gor (fr0 f ts (.code (if t then a else b) :: k) .run) cs) w #[]:=by
 simp only [gor,fr0,stepG,stepG.exec] at h ⊢
 rw [h]
theorem c_cond_bool(c:Operand)(a b:Code){g:Goroutine}{w1:World}{es:Array Event}(h:stepG q main (gor (fr0 f ts (.code (.cond c a b) :: k) .run) cs) w=.go g w1 es):∃ t,(fr0 f ts (.code (.cond c a b) :: k) .run).eval c=.bool t:=by
 simp only [gor,stepG,stepG.exec,fr0] at h ⊢
 split at h
 ·rename_i t ht;exact⟨t,ht⟩
 ·cases h
theorem c_exit(id:Nat)(k':List Item)(h:exitTo id k=some k'):stepG q main (gor (fr0 f ts (.code (.exit id) :: k) .run) cs) w=.go (gor (fr0 f ts k' .run) cs) w #[]:=by
 simp only [gor,fr0,stepG,stepG.exec,h,Option.elim]
theorem c_exit_some(id:Nat){g:Goroutine}{w1:World}{es:Array Event}(h:stepG q main (gor (fr0 f ts (.code (.exit id) :: k) .run) cs) w=.go g w1 es):∃ k',exitTo id k=some k':=by
 simp only [gor,fr0,stepG,stepG.exec] at h
 cases he:exitTo id k with
 | some k'=>exact⟨k',rfl⟩
 | none =>
  rw [he] at h
  simp at h
theorem c_region(id:Nat)(ops:Array Oper):stepG q main (gor (fr0 f ts (.code (.region id ops false) :: k) .run) cs) w=.go (gor (fr0 f ts (.inRegion ops (List.range ops.size) :: k) .run) cs) w #[]:=rfl
theorem c_draw(id:Nat)(ops:Array Oper):stepG q main (gor (fr0 f ts (.code (.region id ops true) :: k) .run) cs) w =
  .go (gor (fr0 f ts (.inRegion ops (Region.schedule (q.follows .mixedOrders) ops (w.tape w.drawn (.order f id))) :: k) .run) cs) { w with drawn:=w.drawn+1 } #[]:=rfl
theorem c_regionEnd(ops:Array Oper):stepG q main (gor (fr0 f ts (.inRegion ops [] :: k) .run) cs) w=.go (gor (fr0 f ts k .run) cs) w #[]:=rfl
theorem c_unwanted(ops:Array Oper)(i:Nat)(r:List Nat)(h:((ops[i]?).map (Region.wanted · (yielded ops ts))).getD false=false) :
  stepG q main (gor (fr0 f ts (.inRegion ops (i :: r) :: k) .run) cs) w=.go (gor ((fr0 f ts (.inRegion ops (i :: r) :: k) .run).finish undef) cs) w #[]:=by
 exact if_neg fun e=>Bool.false_ne_true (h.symm.trans e)
theorem c_oper(ops:Array Oper)(i:Nat)(r:List Nat)(o:Oper)(ho:ops[i]? = some o)(h:Region.wanted o (yielded ops ts)=true) :
  stepG q main (gor (fr0 f ts (.inRegion ops (i :: r) :: k) .run) cs) w=stepG.apply q true (fr0 f ts (.inRegion ops (i :: r) :: k) .run) cs none (execOp (fr0 f ts (.inRegion ops (i :: r) :: k) .run).eval o) w:=by
 simp only [gor,fr0,stepG,stepG.exec,ho,Option.map_some,Option.getD_some,h,if_true,stepG.oper,Frame.oper?]
theorem c_value(ops:Array Oper)(i:Nat)(r:List Nat)(sm:Sem Next)(v:Value)(w1:World)(es:Array Event)(h:sm.runT q w #[]=(.ok (.value v) w1,es)) :
  stepG.apply q true (fr0 f ts (.inRegion ops (i :: r) :: k) .run) cs none sm w=.go (gor ((fr0 f ts (.inRegion ops (i :: r) :: k) .run).finish v) cs) w1 (seen q f es):=by
 simp only [stepG.apply,if_true,h,fr0,gor,GStep.after]
 simp
theorem c_none(ops:Array Oper)(i:Nat)(r:List Nat)(sm:Sem Next)(w1:World)(es:Array Event)(h:sm.runT q w #[]=(.ok .skip w1,es)) :
  stepG.apply q true (fr0 f ts (.inRegion ops (i :: r) :: k) .run) cs none sm w=.go (gor ((fr0 f ts (.inRegion ops (i :: r) :: k) .run).finish undef) cs) w1 (seen q f es):=by
 simp only [stepG.apply,if_true,h,fr0,gor,GStep.after]
 simp
theorem c_enter(ops:Array Oper)(i:Nat)(r:List Nat)(sm:Sem Next)(g:FuncId)(args:Array Value)(w1:World)(es:Array Event)(h:sm.runT q w #[]=(.ok (.enter g args) w1,es)) :
  stepG.apply q true (fr0 f ts (.inRegion ops (i :: r) :: k) .run) cs none sm w=.go (gor (Frame.enter q g args .normal) (fr0 f ts (.inRegion ops (i :: r) :: k) .run :: cs)) w1 (seen q f es):=by
 simp only [stepG.apply,if_true,h,fr0,gor,GStep.after]
 simp
theorem c_panic(ops:Array Oper)(i:Nat)(r:List Nat)(sm:Sem Next)(v:Value)(w1:World)(es:Array Event)(h:sm.runT q w #[]=(.halt (.panic v) w1,es)) :
  stepG.apply q true (fr0 f ts (.inRegion ops (i :: r) :: k) .run) cs none sm w=.go (gor (fr0 f ts (.inRegion ops (i :: r) :: k) (.panicking [{ v,recovered:=false }])) cs) w1 (seen q f es):=by
 simp only [stepG.apply,if_true,h,fr0,gor,GStep.after,Frame.raise]
 simp
theorem c_stuck(fr:Frame)(sm:Sem Next)(why:String)(w1:World)(es:Array Event)(h:sm.runT q w #[]=(.halt (.stuck why) w1,es)){g:Goroutine}{w2:World}{fs:Array Event}(e:stepG.apply q true fr cs none sm w=.go g w2 fs):False:=by
 simp only [stepG.apply,if_true,h,GStep.after] at e
 cases e
theorem c_uns(fr:Frame)(sm:Sem Next)(u:Unsupported)(hu:∀ g,u≠.initOrder g)(w1:World)(es:Array Event)(h:sm.runT q w #[]=(.halt (.unsupported u) w1,es)){g:Goroutine}{w2:World}{fs:Array Event}(e:stepG.apply q true fr cs none sm w=.go g w2 fs):False:=by
 simp only [stepG.apply,if_true,h] at e
 cases u <;> first
  | exact absurd rfl (hu _)
  | (simp only [GStep.after] at e;cases e)
theorem c_return(c:Frame)(fn:Func)(hf:q.funcs[f]? = some fn)(v:Value)(w1:World)(es:Array Event)(h:(results fn ts).runT q w #[]=(.ok v w1,es)) :
  stepG q main (gor (fr0 f ts k .returning) (c :: cs)) w=.go (gor (c.finish v) cs) w1 (seen q f es):=by
 simp only [gor,fr0,stepG,unwind,hf,h,doReturn,GStep.after]
 simp
theorem c_return_ok(c:Frame)(fn:Func)(hf:q.funcs[f]? = some fn){g:Goroutine}{w2:World}{fs:Array Event}(e:stepG q main (gor (fr0 f ts k .returning) (c :: cs)) w=.go g w2 fs):∃ v w1 es,(results fn ts).runT q w #[]=(.ok v w1,es):=by
 simp only [gor,fr0,stepG,unwind,hf] at e
 cases h:(results fn ts).runT q w #[] with
 | mk r es =>
  cases r with
  | ok v w1=>exact⟨v,w1,es,rfl⟩
  | halt x w1 =>
   rw [h] at e
   cases x <;> simp only [GStep.after] at e <;> cases e
theorem c_unwind(c:Frame)(fn:Func)(hf:q.funcs[f]? = some fn)(chain:List PanicEntry) :
  stepG q main (gor (fr0 f ts k (.panicking chain)) (c :: cs)) w=.go (gor (c.raise chain) cs) w #[]:=by
 simp only [gor,fr0,stepG,unwind,Frame.catches,hf]
 simp
end
def goodGuards(dd:Nat→Bool)(ops:Array Oper):Bool :=
 ops.all fun o=>match o.guard with
  | none=>true
  | some (j,_)=>match (ops[j]?).bind (·.dst) with
   | some d=>!dd d
   | none=>true
def goodCode(p p':Program)(mk:TypeId→Bool)(fb:FuncId→Bool)(dd:Nat→Bool):Code→Bool
 | .skip | .exit _ | .ret=>true
 | .region _ ops _=>goodGuards dd ops && ops.all fun o=>goodOp p p' mk fb dd o.op
 | .seq a b=>goodCode p p' mk fb dd a && goodCode p p' mk fb dd b
 | .cond c a b=>goodOperand fb dd c && goodCode p p' mk fb dd a && goodCode p p' mk fb dd b
 | .block _ b | .loop b=>goodCode p p' mk fb dd b
 | _=>false
section
variable (p p':Program)(mk:TypeId→Bool)(fb:FuncId→Bool)(dd:Nat→Bool)(Sp:Oper→Oper→Prop)
structure OpRel(o o':Oper):Prop where
 after:o'.after=o.after
 guard:o'.guard=o.guard
 dst:o'.dst=o.dst
 op:(o'.op=o.op∧o'.type=o.type∧goodOp p p' mk fb dd o.op=true)∨Sp o o'
structure OpsRel(ops ops':Array Oper):Prop where
 size:ops'.size=ops.size
 gd:goodGuards dd ops=true
 at_:∀ (i:Nat) (o o':Oper),ops[i]? = some o→ops'[i]? = some o'→OpRel p p' mk fb dd Sp o o'
inductive CRel:Code→Code→Prop where
 | skip:CRel .skip .skip
 | exit (id:Nat):CRel (.exit id) (.exit id)
 | ret:CRel .ret .ret
 | region (id:Nat) {ops ops':Array Oper} (d:Bool) (h:OpsRel p p' mk fb dd Sp ops ops'):CRel (.region id ops d) (.region id ops' d)
 | seq {a b a' b':Code} (h:CRel a a') (k:CRel b b'):CRel (.seq a b) (.seq a' b')
 | cond (c:Operand) (hc:goodOperand fb dd c=true) {a b a' b':Code} (h:CRel a a') (k:CRel b b'):CRel (.cond c a b) (.cond c a' b')
 | block (id:Nat) {b b':Code} (h:CRel b b'):CRel (.block id b) (.block id b')
 | loop {b b':Code} (h:CRel b b'):CRel (.loop b) (.loop b')
inductive IRel:Item→Item→Prop where
 | code {c c':Code} (h:CRel p p' mk fb dd Sp c c'):IRel (.code c) (.code c')
 | inBlock (id:Nat):IRel (.inBlock id) (.inBlock id)
 | inLoop {b b':Code} (h:CRel p p' mk fb dd Sp b b'):IRel (.inLoop b) (.inLoop b')
 | inRegion {ops ops':Array Oper} (h:OpsRel p p' mk fb dd Sp ops ops') (r:List Nat):IRel (.inRegion ops r) (.inRegion ops' r)
inductive TRel:List Item→List Item→Prop where
 | nil:TRel [] []
 | cons {i i':Item} {k k':List Item} (h:IRel p p' mk fb dd Sp i i') (t:TRel k k'):TRel (i :: k) (i' :: k')
end
def liveRes(dd:Nat→Bool)(fn:Func):Bool:=fn.results.toList.all fun r=>match r with
 | .tmp t=>!dd t
 | .cell a _=>!dd a
structure Pair(p p':Program)(G:Cx)(fb sb:FuncId→Bool)(dd:FuncId→Nat→Bool)(Sp:FuncId→Oper→Oper→Prop):Prop where
 live:∀ f,sb f=true→∀ fn,p.funcs[f]? = some fn→liveRes (dd f) fn=true
 tabs:TB p p' G
 glob:p.globals.size=G.glob
 ent:∀ f,fb f=true→Enters p f∧Enters p' f
 same:∀ f,sb f=true→∃ fn fn' b b',p.funcs[f]? = some fn∧p'.funcs[f]? = some fn'∧fn'.results=fn.results∧fn'.ntmps=fn.ntmps∧fn.body=some b∧fn'.body=some b'∧CRel p p' G.mark fb (dd f) (Sp f) b b'
inductive MRel {G:Cx} (ρ:Ren G) (F:FuncId→Prop):FrameMode→FrameMode→Prop where
 | run:MRel ρ F .run .run
 | returning:MRel ρ F .returning .returning
 | panicking {x y:Value} (h:VRel ρ F x y):MRel ρ F (.panicking [{ v:=x,recovered:=false }]) (.panicking [{ v:=y,recovered:=false }])
structure TmpRel{G:Cx}(ρ:Ren G)(F:FuncId→Prop)(dd:Nat→Bool)(xs ys:Array Value):Prop where
 size:xs.size=ys.size
 at_:∀ (i:Nat) (x y:Value),dd i=false→xs[i]? = some x→ys[i]? = some y→VRel ρ F x y
 de:G.free=false→∀ (i:Nat) (x y:Value),dd i=true→xs[i]? = some x→ys[i]? = some y→VRel ρ (fun f=>F f∨G.f2 f=true) x y
abbrev inF(fb:FuncId→Bool):FuncId→Prop:=fun f=>fb f=true
section
variable (p p':Program){G:Cx}(fb sb:FuncId→Bool)(dd:FuncId→Nat→Bool)(Sp:FuncId→Oper→Oper→Prop)(ρ:Ren G)
inductive FRel:Frame→Frame→Prop where
 | mk (f:FuncId) {ts ts':Array Value} (ht:TmpRel ρ (inF fb) (dd f) ts ts') {k k':List Item} (hk:TRel p p' G.mark fb (dd f) (Sp f) k k') {m m':FrameMode} (hm:MRel ρ (inF fb) m m'):FRel (fr0 f ts k m) (fr0 f ts' k' m')
inductive StRel:List Frame→List Frame→Prop where
 | base {fr fr':Frame} (h:FRel p p' fb dd Sp ρ fr fr'):StRel [fr] [fr']
 | cons {fr fr' c c':Frame} {cs cs':List Frame} (h:FRel p p' fb dd Sp ρ fr fr') (hs:sb fr.fn=true) (hc:c.mode=.run) (k:StRel (c :: cs) (c' :: cs')):StRel (fr :: c :: cs) (fr' :: c' :: cs')
end
section
variable {p p':Program}{G:Cx}{fb sb:FuncId→Bool}{dd:Nat→Bool}{Sp:Oper→Oper→Prop}{ρ σ:Ren G}{F:FuncId→Prop}
theorem TmpRel.of{xs ys:Array Value}(h:RW ρ F xs ys):TmpRel ρ F dd xs ys:=⟨h.size,fun i x y _=>h.at_ i x y,fun _ i x y _ a b=>(h.at_ i x y a b).wide fun _=>.inl⟩
theorem TmpRel.mono{xs ys:Array Value}(h:TmpRel ρ F dd xs ys)(k:Ren.le ρ σ):TmpRel σ F dd xs ys:=⟨h.size,fun i x y hi a b=>(h.at_ i x y hi a b).mono k,fun hf i x y hi a b=>(h.de hf i x y hi a b).mono k⟩
theorem TmpRel.none{xs ys:Array Value}(h:TmpRel ρ F dd xs ys){i:Nat}(hx:xs[i]? = none):ys[i]? = none:=by
 rw [Array.getElem?_eq_none_iff] at hx ⊢
 rw [← h.size];exact hx
theorem TmpRel.get{xs ys:Array Value}(h:TmpRel ρ F dd xs ys){i:Nat}(hi:dd i=false){x:Value}(hx:xs[i]? = some x):∃ y,ys[i]? = some y∧VRel ρ F x y:=by
 obtain⟨hl,_⟩:=Array.getElem?_eq_some_iff.1 hx
 have hl':i<ys.size:=h.size ▸ hl
 exact⟨ys[i],Array.getElem?_eq_getElem hl',h.at_ i x _ hi hx (Array.getElem?_eq_getElem hl')⟩
theorem TmpRel.getD{xs ys:Array Value}(h:TmpRel ρ F dd xs ys)(i:Nat)(hi:dd i=false){x y:Value}(hd:VRel ρ F x y):VRel ρ F (xs.getD i x) (ys.getD i y):=by
 rw [Array.getD_eq_getD_getElem?,Array.getD_eq_getD_getElem?]
 cases hx:xs[i]? with
 | none=>rw [h.none hx];exact hd
 | some v=>obtain⟨u,hu,hr⟩:=h.get hi hx;rw [hu];exact hr
theorem set_get{P:Value→Value→Prop}{xs ys:Array Value}(hs:xs.size=ys.size){i j:Nat}{x y a b:Value}(ha:(xs.setIfInBounds i x)[j]? = some a)(hb:(ys.setIfInBounds i y)[j]? = some b)(h1:i=j→P x y)(h2:xs[j]? = some a→ys[j]? = some b→P a b):P a b:=by
 by_cases hij:i=j
 ·subst hij
  rw [Array.getElem?_setIfInBounds_self] at ha hb
  by_cases hi:i<xs.size
  ·rw [if_pos hi] at ha
   rw [if_pos (hs ▸ hi)] at hb
   cases ha;cases hb;exact h1 rfl
  ·rw [if_neg hi] at ha;cases ha
 ·rw [Array.getElem?_setIfInBounds_ne hij] at ha hb
  exact h2 ha hb
theorem TmpRel.set{xs ys:Array Value}(h:TmpRel ρ F dd xs ys)(i:Nat){x y:Value}(hv:dd i=false→VRel ρ F x y)(hw:G.free=false→dd i=true→VRel ρ (fun f=>F f∨G.f2 f=true) x y):TmpRel ρ F dd (xs.setIfInBounds i x) (ys.setIfInBounds i y) :=
 ⟨by simp [h.size],fun j a b hj ha hb=>set_get h.size ha hb (fun e=>hv (e ▸ hj)) (h.at_ j a b hj),fun hf j a b hj ha hb=>set_get h.size ha hb (fun e=>hw hf (e ▸ hj)) (h.de hf j a b hj)⟩
theorem OpsRel.refl{ops:Array Oper}(hg:goodGuards dd ops=true)(h:(ops.all fun o=>goodOp p p' G.mark fb dd o.op)=true):OpsRel p p' G.mark fb dd Sp ops ops :=
 ⟨rfl,hg,fun i o o' h1 h2=>by
  rw [h1] at h2;cases h2
  exact⟨rfl,rfl,rfl,.inl ⟨rfl,rfl,Array.all_eq_true_iff_forall_mem.1 h o (Array.mem_of_getElem? h1)⟩⟩⟩
theorem CRel.refl:∀ {c:Code},goodCode p p' G.mark fb dd c=true→CRel p p' G.mark fb dd Sp c c
 | .skip,_=>.skip
 | .exit _,_=>.exit _
 | .ret,_=>.ret
 | .region _ _ _,h=>by
  simp only [goodCode,Bool.and_eq_true] at h
  exact .region _ _ (.refl h.1 h.2)
 | .seq a b,h=>by
  simp only [goodCode,Bool.and_eq_true] at h
  exact .seq (CRel.refl h.1) (CRel.refl h.2)
 | .cond c a b,h=>by
  simp only [goodCode,Bool.and_eq_true] at h
  exact .cond c h.1.1 (CRel.refl h.1.2) (CRel.refl h.2)
 | .block _ b,h=>.block _ (CRel.refl (c:=b) h)
 | .loop b,h=>.loop (CRel.refl (c:=b) h)
 | .rangeFunc ..,h=>by cases h
 | .scope _,h=>by cases h
 | .label _,h=>by cases h
 | .goto _,h=>by cases h
 | .refuse _,h=>by cases h
theorem OpsRel.get{ops ops':Array Oper}(h:OpsRel p p' G.mark fb dd Sp ops ops'){i:Nat}{o:Oper}(ho:ops[i]? = some o):∃ o',ops'[i]? = some o'∧OpRel p p' G.mark fb dd Sp o o':=by
 obtain⟨hi,_⟩:=Array.getElem?_eq_some_iff.1 ho
 have hi':i<ops'.size:=by rw [h.size];exact hi
 exact⟨ops'[i],Array.getElem?_eq_getElem hi',h.at_ i o _ ho (Array.getElem?_eq_getElem hi')⟩
theorem OpsRel.none{ops ops':Array Oper}(h:OpsRel p p' G.mark fb dd Sp ops ops'){i:Nat}(ho:ops[i]? = none):ops'[i]? = none:=by
 rw [Array.getElem?_eq_none_iff] at ho ⊢
 rw [h.size];exact ho
theorem linearise_go{ops ops':Array Oper}(h:OpsRel p p' G.mark fb dd Sp ops ops')(m:Region.Mode):∀ (n t:Nat) (l:Array Bool) (acc:List Nat),Region.linearise.go m ops' n t l acc=Region.linearise.go m ops n t l acc
 | 0,_,_,_=>rfl
 | n+1,t,l,acc=>by
  have e:((List.range ops'.size).filter fun i=>!l.getD i true && ((ops'[i]?).map (·.after.all fun e=>!Region.binds m e || l.getD e.on false)).getD false)
    = ((List.range ops.size).filter fun i=>!l.getD i true && ((ops[i]?).map (·.after.all fun e=>!Region.binds m e || l.getD e.on false)).getD false):=by
   rw [h.size]
   congr 1
   funext i
   cases ho:ops[i]? with
   | none=>rw [h.none ho]
   | some o =>
    obtain⟨o',ho',hr⟩:=h.get ho
    simp only [ho',Option.map_some,hr.after]
  unfold Region.linearise.go
  simp only [e]
  split
  ·exact linearise_go h m n _ _ _
  ·rfl
theorem schedule_same{ops ops':Array Oper}(h:OpsRel p p' G.mark fb dd Sp ops ops')(m:Bool)(t:Nat):Region.schedule m ops' t=Region.schedule m ops t:=by
 have e:Region.departs ops'=Region.departs ops:=by
  unfold Region.departs
  apply Bool.eq_iff_iff.2
  rw [Array.any_eq_true',Array.any_eq_true']
  constructor
  ·rintro⟨o',ho',hx⟩
   obtain⟨i,hi⟩:=Array.mem_iff_getElem?.1 ho'
   cases ho:ops[i]? with
   | none=>rw [h.none ho] at hi;cases hi
   | some o =>
    have hr:=h.at_ i o o' ho hi
    exact⟨o,Array.mem_of_getElem? ho,by rw [← hr.after];exact hx⟩
  ·rintro⟨o,ho,hx⟩
   obtain⟨i,hi⟩:=Array.mem_iff_getElem?.1 ho
   obtain⟨o',ho',hr⟩:=h.get hi
   exact⟨o',Array.mem_of_getElem? ho',by rw [hr.after];exact hx⟩
 unfold Region.schedule Region.linearise
 rw [e,h.size]
 simp only [linearise_go h]
theorem yielded_same{ops ops':Array Oper}(h:OpsRel p p' G.mark fb dd Sp ops ops'){ts ts':Array Value}(ht:TmpRel ρ F dd ts ts')(j:Nat)(hj:∀ d,(ops[j]?).bind (·.dst)=some d→dd d=false):yielded ops' ts' j=yielded ops ts j:=by
 unfold yielded
 cases ho:ops[j]? with
 | none=>rw [h.none ho];rfl
 | some o =>
  obtain⟨o',ho',hr⟩:=h.get ho
  rw [ho',Option.bind_some,Option.bind_some,hr.dst]
  cases hd:o.dst with
  | none=>rfl
  | some d =>
   have hdd:dd d=false:=hj d (by rw [ho,Option.bind_some,hd])
   simp only [Option.bind_some]
   cases hx:ts[d]? with
   | none=>rw [ht.none hx]
   | some x =>
    obtain⟨y,hy,hv⟩:=ht.get hdd hx
    rw [hy]
    cases hv <;> first | rfl | (rename_i hq;cases y <;> first | rfl | cases hq)
theorem wanted_same{ops ops':Array Oper}(h:OpsRel p p' G.mark fb dd Sp ops ops'){ts ts':Array Value}(ht:TmpRel ρ F dd ts ts'){i:Nat}{o o':Oper}(ho:ops[i]? = some o)(hr:OpRel p p' G.mark fb dd Sp o o'):Region.wanted o' (yielded ops' ts')=Region.wanted o (yielded ops ts):=by
 unfold Region.wanted
 rw [hr.guard]
 split
 ·rfl
 ·rename_i j want hg
  rw [yielded_same h ht j fun d hd=>?_]
  have:=Array.all_eq_true_iff_forall_mem.1 h.gd o (Array.mem_of_getElem? ho)
  rw [hg] at this
  simp only [hd] at this
  simpa using this
theorem exitTo_rel(id:Nat){k k':List Item}(h:TRel p p' G.mark fb dd Sp k k'):∀ {r:List Item},exitTo id k=some r→∃ r',exitTo id k'=some r'∧TRel p p' G.mark fb dd Sp r r':=by
 induction h with
 | nil=>intro r e;cases e
 | cons hi ht ih =>
  intro r e
  cases hi with
  | inBlock j =>
   simp only [exitTo] at e ⊢
   split at e
   ·cases e;rename_i hj;exact⟨_,by rw [if_pos hj],ht⟩
   ·rename_i hj;rw [if_neg hj];exact ih e
  | code _=>exact ih e
  | inLoop _=>exact ih e
  | inRegion _ _=>exact ih e
end
section
variable {p p':Program}{G:Cx}{fb sb:FuncId→Bool}{dd:FuncId→Nat→Bool}{Sp:FuncId→Oper→Oper→Prop}{ρ σ:Ren G}{F:FuncId→Prop}
theorem MRel.mono{m m':FrameMode}(h:MRel ρ F m m')(k:Ren.le ρ σ):MRel σ F m m':=by
 cases h with
 | run=>exact .run
 | returning=>exact .returning
 | panicking h=>exact .panicking (h.mono k)
theorem FRel.mono{fr fr':Frame}(h:FRel p p' fb dd Sp ρ fr fr')(k:Ren.le ρ σ):FRel p p' fb dd Sp σ fr fr':=by
 cases h with
 | mk f ht hk hm=>exact .mk f (ht.mono k) hk (hm.mono k)
theorem StRel.mono{cs cs':List Frame}(h:StRel p p' fb sb dd Sp ρ cs cs')(k:Ren.le ρ σ):StRel p p' fb sb dd Sp σ cs cs':=by
 induction h with
 | base h=>exact .base (h.mono k)
 | cons h hs hc _ ih=>exact .cons (h.mono k) hs hc ih
theorem FRel.finish{fr fr':Frame}(h:FRel p p' fb dd Sp ρ fr fr'){x y:Value}(hv:VRel ρ (inF fb) x y):FRel p p' fb dd Sp ρ (fr.finish x) (fr'.finish y):=by
 cases h with
 | @mk f ts ts' ht k k' hk m m' hm =>
  cases hk with
  | nil=>exact .mk f ht .nil hm
  | cons hi hr =>
   cases hi with
   | @inRegion ops ops' ho r =>
    cases r with
    | nil=>exact .mk f ht (.cons (.inRegion ho []) hr) hm
    | cons i r =>
     have e:∀ (ops:Array Oper) (ts:Array Value) (k:List Item) (m:FrameMode) (x:Value),(fr0 f ts (.inRegion ops (i :: r) :: k) m).finish x=fr0 f (match (ops[i]?).bind (·.dst) with | some d=>ts.setIfInBounds d x | none=>ts) (.inRegion ops r :: k) m:=fun _ _ _ _ _=>rfl
     rw [e,e]
     refine .mk f ?_ (.cons (.inRegion ho r) hr) hm
     cases hoi:ops[i]? with
     | none=>rw [ho.none hoi];exact ht
     | some o =>
      obtain⟨o',ho',hrr⟩:=ho.get hoi
      rw [ho']
      simp only [Option.bind_some,hrr.dst]
      cases o.dst with
      | none=>exact ht
      | some d=>exact ht.set d (fun _=>hv) fun _ _=>hv.wide fun _=>.inl
   | code hc=>exact .mk f ht (.cons (.code hc) hr) hm
   | inBlock id=>exact .mk f ht (.cons (.inBlock id) hr) hm
   | inLoop hb=>exact .mk f ht (.cons (.inLoop hb) hr) hm
theorem FRel.raise{fr fr':Frame}(h:FRel p p' fb dd Sp ρ fr fr')(hm:fr.mode=.run){x y:Value}(hv:VRel ρ (inF fb) x y):FRel p p' fb dd Sp ρ (fr.raise [{ v:=x,recovered:=false }]) (fr'.raise [{ v:=y,recovered:=false }]):=by
 cases h with
 | @mk f ts ts' ht k k' hk m m' hmm =>
  simp only [fr0] at hm
  subst hm
  cases hmm with
  | run=>exact .mk f ht hk (.panicking hv)
theorem finish_fn(fr:Frame)(v:Value):(fr.finish v).fn=fr.fn:=by
 unfold Frame.finish
 split <;> rfl
theorem finish_mode(fr:Frame)(v:Value):(fr.finish v).mode=fr.mode:=by
 unfold Frame.finish
 split <;> rfl
theorem raise_fn(fr:Frame)(c:List PanicEntry):(fr.raise c).fn=fr.fn:=by
 unfold Frame.raise
 split <;> rfl
theorem StRel.top{fr fr' a a':Frame}{cs cs':List Frame}(h:StRel p p' fb sb dd Sp ρ (fr :: cs) (fr' :: cs'))(hl:Ren.le ρ σ)(ha:FRel p p' fb dd Sp σ a a')(hf:a.fn=fr.fn):StRel p p' fb sb dd Sp σ (a :: cs) (a' :: cs'):=by
 cases h with
 | base _=>exact .base ha
 | cons _ hs hc k=>exact .cons ha (by rw [hf];exact hs) hc (k.mono hl)
theorem enter_rel(hP:Pair p p' G fb sb dd Sp){f:FuncId}(hs:sb f=true){xs ys:Array Value}(h:RW ρ (inF fb) xs ys):FRel p p' fb dd Sp ρ (Frame.enter p f xs .normal) (Frame.enter p' f ys .normal):=by
 obtain⟨fn,fn',b,b',h1,h2,_,hn,h3,h3',h4⟩:=hP.same f hs
 have e1:Frame.enter p f xs .normal=fr0 f (xs++Array.replicate (fn.ntmps-xs.size) undef) [.code b] .run:=by simp [Frame.enter,h1,h3,fr0]
 have e2:Frame.enter p' f ys .normal=fr0 f (ys++Array.replicate (fn.ntmps-ys.size) undef) [.code b'] .run:=by simp [Frame.enter,h2,h3',fr0,hn]
 rw [e1,e2,← h.size]
 exact .mk f (.of (h.append (.replicate _ VRel.undef))) (.cons (.code h4) .nil) .run
theorem eval_rel{f:FuncId}{de:Nat→Bool}{ts ts':Array Value}(ht:TmpRel ρ (inF fb) de ts ts')(k k':List Item)(m m':FrameMode)(x:Operand)(hx:goodOperand fb de x=true):VRel ρ (inF fb) ((fr0 f ts k m).eval x) ((fr0 f ts' k' m').eval x):=by
 cases x with
 | tmp t=>exact ht.getD t (by simpa [goodOperand] using hx) VRel.undef
 | const v=>exact flat_rel 3 v hx
 | global g=>cases hx
 | func g=>exact .func hx rfl (fun i x y h=>by simp at h) rfl (fun i x y h=>by simp at h)
theorem results_same{fn fn':Func}(h:fn'.results=fn.results)(ts:Array Value):results fn' ts=results fn ts:=by
 unfold results
 rw [h]
theorem s_resultsL(hT:TB p p' G){de:Nat→Bool}{ts ts':Array Value}(h:TmpRel ρ F de ts ts'):∀ (l:List ResultVar),(l.all fun r=>match r with | .tmp t=>!de t | .cell a _=>!de a)=true→∀ (σ:Ren G) (a b:Array Value),Ren.le ρ σ→RW σ F a b →
  SRel p p' F (fun σ a b=>RW σ F a b) σ (l.foldlM (fun acc r=>do let x ← (match r with | .tmp t=>pure (ts.getD t undef) | .cell a t=>do loadVar t (← asAddr (ts.getD a undef)));pure (acc.push x)) a) (l.foldlM (fun acc r=>do let x ← (match r with | .tmp t=>pure (ts'.getD t undef) | .cell a t=>do loadVar t (← asAddr (ts'.getD a undef)));pure (acc.push x)) b)
 | [],_,σ,a,b,hl,h=>.pure h
 | r :: l,hr,σ,a,b,hl,hab=>by
  rw [List.foldlM_cons,List.foldlM_cons]
  rw [List.all_cons,Bool.and_eq_true] at hr
  refine SRel.bind (P:=fun σ a b=>RW σ F a b) ?_ fun τ c d hm hcd=>s_resultsL hT h l hr.2 τ c d (Ren.le_trans hl hm) hcd
  refine SRel.bind (P:=fun σ x y=>VRel σ F x y) ?_ ?_
  ·cases r with
   | tmp t=>exact .pure (((h.mono hl).getD t (by simpa using hr.1) VRel.undef))
   | cell a t =>
    refine SRel.bind (s_asAddr hT ((h.mono hl).getD a (by simpa using hr.1) VRel.undef)) ?_
    intro τ c d hτ hcd
    exact s_loadVar hT t (hcd.mono hτ)
  ·intro τ x y hτ hv
   exact .pure ((hab.mono hτ).push hv)
theorem s_results(hT:TB p p' G)(fn:Func){de:Nat→Bool}{ts ts':Array Value}(h:TmpRel ρ F de ts ts')(hl:liveRes de fn=true):SRel p p' F (fun σ x y=>VRel σ F x y) ρ (results fn ts) (results fn ts'):=by
 unfold results
 refine SRel.bind (P:=fun σ a b=>RW σ F a b) ?_ ?_
 ·rw [Array.mapM_eq_foldlM,← Array.foldlM_toList,Array.mapM_eq_foldlM,← Array.foldlM_toList]
  exact s_resultsL hT h _ hl ρ _ _ (Ren.le_refl _) RW.empty
 ·intro σ xs ys _ hr
  refine .pure ?_
  by_cases hs:xs.size=1
  ·have hs':ys.size=1:=by rw [← hr.size];exact hs
   rw [dif_pos hs,dif_pos hs']
   exact hr.at_ 0 _ _ (Array.getElem?_eq_getElem _) (Array.getElem?_eq_getElem _)
  ·have hs':¬ ys.size=1:=by rw [← hr.size];exact hs
   rw [dif_neg hs,dif_neg hs']
   exact .tuple hr.size hr.at_
end
end Go.Proofs.YtdoibgmmijhlfaaGreat.Sm
namespace Go.Proofs.YtdoibgmmijhlfaaGreat.Sm
open Go
set_option linter.unusedVariables false
section
variable {p p':Program}{G:Cx}{fb sb:FuncId→Bool}{dd:FuncId→Nat→Bool}{Sp:FuncId→Oper→Oper→Prop}{ρ σ:Ren G}{F:FuncId→Prop}
theorem After.sub{w w' u u':World}{fs gs:Array Event}(h:After F ρ σ w w' u u' fs)(k:∀ e∈gs,e∈fs):After F ρ σ w w' u u' gs :=
 ⟨h.le,h.wrel,h.al,h.lone,h.comp,h.new,h.only,fun e he=>h.evs e (k e he)⟩
theorem After.draw{w w':World}(hw:WRel ρ F w w')(ha:Aligned w w'):After F ρ ρ w w' { w with drawn:=w.drawn+1 } { w' with drawn:=w'.drawn+1 } #[]:=by
 refine⟨Ren.le_refl _,⟨hw.objs,hw.base⟩,fun i r=>?_,⟨Nat.le_refl _,fun b xs e z h=>⟨xs,h,rfl⟩,fun _ _ _ h=>h,rfl,rfl,rfl⟩,⟨Nat.le_refl _,fun b xs e z h=>⟨xs,h,rfl⟩,fun _ _ _ h=>h,rfl,rfl,rfl⟩,fun _ _ x=>.inl x,fun _ _=>.inl rfl,by simp⟩
 have:=ha (1+i) r
 simpa only [Nat.add_assoc] using this
def AtSp(Sp:FuncId→Oper→Oper→Prop)(fr fr':Frame):Prop :=
 fr.mode=.run∧∃ ops ops' i r k k' o o',fr.todo=.inRegion ops (i :: r) :: k∧fr'.todo=.inRegion ops' (i :: r) :: k'∧ops[i]? = some o∧ops'[i]? = some o'∧Region.wanted o (yielded ops fr.tmps)=true∧Sp fr.fn o o'
def Behind(p p':Program)(fb sb:FuncId→Bool)(dd:FuncId→Nat→Bool)(Sp:FuncId→Oper→Oper→Prop){G:Cx}(σ:Ren G)(fr:Frame)(cs:List Frame)(fr':Frame)(cs':List Frame):Prop :=
 StRel p p' fb sb dd Sp σ (fr :: cs) (fr' :: cs') ∨
  ∃ f xs ys,fb f=true∧sb f=false∧RW σ (inF fb) xs ys∧fr=Frame.enter p f xs .normal∧fr'=Frame.enter p' f ys .normal∧StRel p p' fb sb dd Sp σ cs cs'
def Own(fr fr1:Frame):Prop:=fr1.fn=fr.fn∧∀ ops i r k,fr.todo=.inRegion ops (i :: r) :: k→(fr1.todo=.inRegion ops r :: k∧fr1.mode=fr.mode)∨∃ ch,fr1.mode=.panicking ch
theorem own_finish{f:FuncId}{ts:Array Value}{ops:Array Oper}{i:Nat}{r:List Nat}{k:List Item}{m:FrameMode}{v:Value}:Own (fr0 f ts (.inRegion ops (i :: r) :: k) m) ((fr0 f ts (.inRegion ops (i :: r) :: k) m).finish v):=by
 refine⟨finish_fn _ _,?_⟩
 intro ops' i' r' k' e
 have e':Item.inRegion ops (i :: r) :: k=.inRegion ops' (i' :: r') :: k':=e
 injection e' with e1 e2
 injection e1 with e3 e4
 injection e4 with e5 e6
 subst e2;subst e3;subst e5;subst e6
 exact .inl ⟨rfl,rfl⟩
theorem own_panic{f:FuncId}{ts ts':Array Value}{k k':List Item}{m:FrameMode}{ch:List PanicEntry}:Own (fr0 f ts' k' m) (fr0 f ts k (.panicking ch)):=⟨rfl,fun _ _ _ _ _=>.inr ⟨ch,rfl⟩⟩
def Shape(fr:Frame)(cs:List Frame)(fr1:Frame)(cs1:List Frame)(fr':Frame)(cs':List Frame)(fr1':Frame)(cs1':List Frame):Prop :=
 (cs1=cs∧cs1'=cs'∧Own fr fr1∧Own fr' fr1')∨(cs1=fr :: cs∧cs1'=fr' :: cs')∨∃ c c',cs=c :: cs1∧cs'=c' :: cs1'∧((∃ v v',fr1=c.finish v∧fr1'=c'.finish v')∨∃ ch ch',fr1=c.raise ch∧fr1'=c'.raise ch')
theorem sim_step(hP:Pair p p' G fb sb dd Sp){fr fr':Frame}{cs cs':List Frame}(hS:StRel p p' fb sb dd Sp ρ (fr :: cs) (fr' :: cs'))(hb:fr.mode=.run∨cs≠[])(hsp:¬ AtSp Sp fr fr'){w w':World}(hw:WRel ρ (inF fb) w w')
  (ha:Aligned w w') {m0:Bool} {g1:Goroutine} {w1:World} {es:Array Event} (e:stepG p m0 (gor fr cs) w=.go g1 w1 es) :
  ∃ (σ:Ren G) (fr1:Frame) (cs1:List Frame) (fr1':Frame) (cs1':List Frame) (u':World) (fs:Array Event),g1=gor fr1 cs1 ∧
   (∀ main rest,stepG p' main (gor fr' (cs'++rest)) w'=.go (gor fr1' (cs1'++rest)) u' fs)∧After (inF fb) ρ σ w w' w1 u' fs∧Behind p p' fb sb dd Sp σ fr1 cs1 fr1' cs1'∧Shape fr cs fr1 cs1 fr' cs' fr1' cs1':=by
 have hF:FRel p p' fb dd Sp ρ fr fr':=by cases hS with
  | base h=>exact h
  | cons h _ _ _=>exact h
 cases hF with
 | @mk f ts ts' ht k k' hk m m' hm =>
  have stay:∀ {k1 k1':List Item} {m1 m1':FrameMode} {g1:Goroutine} {w1:World},TRel p p' G.mark fb (dd f) (Sp f) k1 k1'→MRel ρ (inF fb) m1 m1'→gor (fr0 f ts k1 m1) cs=g1→w=w1 →
    (∀ main rest,stepG p' main (gor (fr0 f ts' k' m') (cs'++rest)) w'=.go (gor (fr0 f ts' k1' m1') (cs'++rest)) w' #[])→(∀ ops i r kk,k≠.inRegion ops (i :: r) :: kk)→(∀ ops i r kk,k'≠.inRegion ops (i :: r) :: kk) →
    ∃ (σ:Ren G) (fr1:Frame) (cs1:List Frame) (fr1':Frame) (cs1':List Frame) (u':World) (fs:Array Event),g1=gor fr1 cs1 ∧
     (∀ main rest,stepG p' main (gor (fr0 f ts' k' m') (cs'++rest)) w'=.go (gor fr1' (cs1'++rest)) u' fs)∧After (inF fb) ρ σ w w' w1 u' fs∧Behind p p' fb sb dd Sp σ fr1 cs1 fr1' cs1'∧Shape (fr0 f ts k m) cs fr1 cs1 (fr0 f ts' k' m') cs' fr1' cs1':=by
   rintro k1 k1' m1 m1' g1 w1 hk1 hm1 rfl rfl hst hn1 hn2
   exact⟨ρ,_,cs,_,cs',w',#[],rfl,hst,After.refl hw ha,.inl (hS.top (Ren.le_refl _) (.mk f ht hk1 hm1) rfl),.inl ⟨rfl,rfl,⟨rfl,fun _ _ _ _ q=>absurd q (hn1 _ _ _ _)⟩,⟨rfl,fun _ _ _ _ q=>absurd q (hn2 _ _ _ _)⟩⟩⟩
  cases hm with
  | run =>
   cases hk with
   | nil =>
    rw [c_nil] at e
    obtain⟨e1,e2,_⟩:gor (fr0 f ts [] .returning) cs=g1∧w=w1∧#[]=es:=by simpa using e
    exact stay .nil .returning e1 e2 (fun main rest=>c_nil ..) (fun _ _ _ _ q=>by cases q) (fun _ _ _ _ q=>by cases q)
   | @cons i i' k k' hi hr =>
    cases hi with
    | inBlock id =>
     rw [c_inBlock] at e
     obtain⟨e1,e2,_⟩:gor (fr0 f ts k .run) cs=g1∧w=w1∧#[]=es:=by simpa using e
     exact stay hr .run e1 e2 (fun main rest=>c_inBlock ..) (fun _ _ _ _ q=>by cases q) (fun _ _ _ _ q=>by cases q)
    | inLoop hb' =>
     rename_i b b'
     rw [c_inLoop] at e
     obtain⟨e1,e2,_⟩:gor (fr0 f ts (.code b :: .inLoop b :: k) .run) cs=g1∧w=w1∧#[]=es:=by simpa using e
     exact stay (.cons (.code hb') (.cons (.inLoop hb') hr)) .run e1 e2 (fun main rest=>c_inLoop ..) (fun _ _ _ _ q=>by cases q) (fun _ _ _ _ q=>by cases q)
    | code hc =>
     cases hc with
     | skip =>
      rw [c_skip] at e
      obtain⟨e1,e2,_⟩:gor (fr0 f ts k .run) cs=g1∧w=w1∧#[]=es:=by simpa using e
      exact stay hr .run e1 e2 (fun main rest=>c_skip ..) (fun _ _ _ _ q=>by cases q) (fun _ _ _ _ q=>by cases q)
     | ret =>
      rw [c_ret] at e
      obtain⟨e1,e2,_⟩:gor (fr0 f ts (.code .ret :: k) .returning) cs=g1∧w=w1∧#[]=es:=by simpa using e
      exact stay (.cons (.code .ret) hr) .returning e1 e2 (fun main rest=>c_ret ..) (fun _ _ _ _ q=>by cases q) (fun _ _ _ _ q=>by cases q)
     | exit id =>
      obtain⟨r,hx⟩:=c_exit_some _ _ _ _ _ _ _ _ e
      obtain⟨r',hx',hrr⟩:=exitTo_rel id hr hx
      rw [c_exit _ _ _ _ _ _ _ _ r hx] at e
      obtain⟨e1,e2,_⟩:gor (fr0 f ts r .run) cs=g1∧w=w1∧#[]=es:=by simpa using e
      exact stay hrr .run e1 e2 (fun main rest=>c_exit _ _ _ _ _ _ _ _ r' hx') (fun _ _ _ _ q=>by cases q) (fun _ _ _ _ q=>by cases q)
     | @seq a b a' b' h1 h2 =>
      rw [c_seq] at e
      obtain⟨e1,e2,_⟩:gor (fr0 f ts (.code a :: .code b :: k) .run) cs=g1∧w=w1∧#[]=es:=by simpa using e
      exact stay (.cons (.code h1) (.cons (.code h2) hr)) .run e1 e2 (fun main rest=>c_seq ..) (fun _ _ _ _ q=>by cases q) (fun _ _ _ _ q=>by cases q)
     | @cond c hcg a b a' b' h1 h2 =>
      obtain⟨t,hv⟩:=c_cond_bool _ _ _ _ _ _ _ _ _ _ e
      have hv':(fr0 f ts' (.code (.cond c a' b') :: k') .run).eval c=.bool t:=by
       have:=eval_rel (ρ:=ρ) (fb:=fb) (f:=f) ht (.code (.cond c a b) :: k) (.code (.cond c a' b') :: k') .run .run c hcg
       rw [hv] at this
       generalize (fr0 f ts' (.code (.cond c a' b') :: k') .run).eval c=y at this
       cases this;rfl
      rw [c_cond _ _ _ _ _ _ _ _ _ _ t hv] at e
      obtain⟨e1,e2,_⟩:gor (fr0 f ts (.code (if t then a else b) :: k) .run) cs=g1∧w=w1∧#[]=es:=by simpa using e
      refine stay (k1':=.code (if t then a' else b') :: k') (.cons (.code ?_) hr) .run e1 e2 (fun main rest=>c_cond _ _ _ _ _ _ _ _ _ _ t hv') (fun _ _ _ _ q=>by cases q) (fun _ _ _ _ q=>by cases q)
      cases t
      ·exact h2
      ·exact h1
     | @block id b b' h1 =>
      rw [c_block] at e
      obtain⟨e1,e2,_⟩:gor (fr0 f ts (.code b :: .inBlock id :: k) .run) cs=g1∧w=w1∧#[]=es:=by simpa using e
      exact stay (.cons (.code h1) (.cons (.inBlock id) hr)) .run e1 e2 (fun main rest=>c_block ..) (fun _ _ _ _ q=>by cases q) (fun _ _ _ _ q=>by cases q)
     | @loop b b' h1 =>
      rw [c_loop] at e
      obtain⟨e1,e2,_⟩:gor (fr0 f ts (.code b :: .inLoop b :: k) .run) cs=g1∧w=w1∧#[]=es:=by simpa using e
      exact stay (.cons (.code h1) (.cons (.inLoop h1) hr)) .run e1 e2 (fun main rest=>c_loop ..) (fun _ _ _ _ q=>by cases q) (fun _ _ _ _ q=>by cases q)
     | @region id ops ops' d ho =>
      cases d with
      | false =>
       rw [c_region] at e
       obtain⟨e1,e2,_⟩:gor (fr0 f ts (.inRegion ops (List.range ops.size) :: k) .run) cs=g1∧w=w1∧#[]=es:=by simpa using e
       refine stay (.cons (.inRegion ho _) hr) .run e1 e2 (fun main rest=>?_) (fun _ _ _ _ q=>by cases q) (fun _ _ _ _ q=>by cases q)
       rw [c_region,ho.size]
      | true =>
       rw [c_draw] at e
       obtain⟨e1,e2,_⟩:gor (fr0 f ts (.inRegion ops (Region.schedule (p.follows .mixedOrders) ops (w.tape w.drawn (.order f id))) :: k) .run) cs=g1∧{ w with drawn:=w.drawn+1 }=w1∧#[]=es:=by simpa using e
       subst e1;subst e2
       refine⟨ρ,_,cs,fr0 f ts' (.inRegion ops' (Region.schedule (p.follows .mixedOrders) ops (w.tape w.drawn (.order f id))) :: k') .run,cs',{ w' with drawn:=w'.drawn+1 },#[],rfl,fun main rest=>?_,After.draw hw ha,
        .inl (hS.top (Ren.le_refl _) (.mk f ht (.cons (.inRegion ho _) hr) .run) rfl),.inl ⟨rfl,rfl,⟨rfl,fun _ _ _ _ q=>(by cases q)⟩,⟨rfl,fun _ _ _ _ q=>(by cases q)⟩⟩⟩
       rw [c_draw,schedule_same ho,show w'.tape w'.drawn (.order f id)=w.tape w.drawn (.order f id) from (ha 0 _).symm,show p'.follows .mixedOrders=p.follows .mixedOrders from by rw [hP.tabs.eq]]
    | @inRegion ops ops' ho r =>
     cases r with
     | nil =>
      rw [c_regionEnd] at e
      obtain⟨e1,e2,_⟩:gor (fr0 f ts k .run) cs=g1∧w=w1∧#[]=es:=by simpa using e
      exact stay hr .run e1 e2 (fun main rest=>c_regionEnd ..) (fun _ _ _ _ q=>by cases q) (fun _ _ _ _ q=>by cases q)
     | cons i r =>
      cases hoi:ops[i]? with
      | none =>
       have h1:((ops[i]?).map (Region.wanted · (yielded ops ts))).getD false=false:=by rw [hoi];rfl
       have h2:((ops'[i]?).map (Region.wanted · (yielded ops' ts'))).getD false=false:=by rw [ho.none hoi];rfl
       rw [c_unwanted _ _ _ _ _ _ _ _ _ _ h1] at e
       obtain⟨e1,e2,_⟩:gor ((fr0 f ts (.inRegion ops (i :: r) :: k) .run).finish undef) cs=g1∧w=w1∧#[]=es:=by simpa using e
       subst e1;subst e2
       exact⟨ρ,_,cs,_,cs',w',#[],rfl,fun main rest=>c_unwanted _ _ _ _ _ _ _ _ _ _ h2,After.refl hw ha,.inl (hS.top (Ren.le_refl _) ((FRel.mk f ht (.cons (.inRegion ho (i :: r)) hr) .run).finish VRel.undef) (finish_fn _ _)),.inl ⟨rfl,rfl,own_finish,own_finish⟩⟩
      | some o =>
       obtain⟨o',hoi',hor⟩:=ho.get hoi
       by_cases hwn:Region.wanted o (yielded ops ts)=true
       ·have hwn':Region.wanted o' (yielded ops' ts')=true:=by rw [wanted_same ho ht hoi hor];exact hwn
        rcases hor.op with ⟨q1,q2,q3⟩ | q
        ·rw [c_oper _ _ _ _ _ _ _ _ _ _ o hoi hwn] at e
         have hstep:∀ main rest,stepG p' main (gor (fr0 f ts' (.inRegion ops' (i :: r) :: k') .run) (cs'++rest)) w'=stepG.apply p' true (fr0 f ts' (.inRegion ops' (i :: r) :: k') .run) (cs'++rest) none (execOp (fr0 f ts' (.inRegion ops' (i :: r) :: k') .run).eval o) w':=fun main rest=>by
          rw [c_oper _ _ _ _ _ _ _ _ _ _ o' hoi' hwn']
          have:∀ ev:Operand→Value,execOp ev o'=execOp ev o:=fun ev=>by unfold execOp;rw [q1,q2]
          rw [this]
         have hsound:=(s_execOp (ρ:=ρ) (F:=inF fb) hP.tabs hP.glob fb (dd f) (fun f=>Iff.rfl) hP.ent (fr0 f ts (.inRegion ops (i :: r) :: k) .run).eval (fr0 f ts' (.inRegion ops' (i :: r) :: k') .run).eval o (fun v=>⟨rfl,rfl⟩)
          (fun x hx=>eval_rel ht _ _ _ _ x hx) q3).sound w w' #[] #[] hw ha
         have hfr:FRel p p' fb dd Sp ρ (fr0 f ts (.inRegion ops (i :: r) :: k) .run) (fr0 f ts' (.inRegion ops' (i :: r) :: k') .run):=.mk f ht (.cons (.inRegion ho (i :: r)) hr) .run
         generalize hres:(execOp (fr0 f ts (.inRegion ops (i :: r) :: k) .run).eval o).runT p w #[]=res at hsound
         obtain⟨rs,evs⟩:=res
         unfold Sound at hsound
         split at hsound
         ·rename_i a u hok
          simp only at hok
          subst hok
          obtain⟨σ,b,u',fs,hy,hA,hN⟩:=hsound
          rw [Array.empty_append] at hy
          have hA':After (inF fb) ρ σ w w' u u' (seen p' f fs):=hA.sub fun e he=>Go.Conc.mem_seen he
          cases hN with
          | value hv =>
           rw [c_value _ _ _ _ _ _ _ _ _ _ _ _ _ hres] at e
           obtain⟨e1,e2,_⟩:=GStep.go.inj e
           subst e1;subst e2
           exact⟨σ,_,cs,_,cs',u',_,rfl,fun main rest=>by rw [hstep,c_value _ _ _ _ _ _ _ _ _ _ _ _ _ hy],hA',.inl (hS.top hA.le ((hfr.mono hA.le).finish hv) (finish_fn _ _)),.inl ⟨rfl,rfl,own_finish,own_finish⟩⟩
          | skip =>
           rw [c_none _ _ _ _ _ _ _ _ _ _ _ _ hres] at e
           obtain⟨e1,e2,_⟩:=GStep.go.inj e
           subst e1;subst e2
           exact⟨σ,_,cs,_,cs',u',_,rfl,fun main rest=>by rw [hstep,c_none _ _ _ _ _ _ _ _ _ _ _ _ hy],hA',.inl (hS.top hA.le ((hfr.mono hA.le).finish VRel.undef) (finish_fn _ _)),.inl ⟨rfl,rfl,own_finish,own_finish⟩⟩
          | @enter h xs ys hf hrow =>
           rw [c_enter _ _ _ _ _ _ _ _ _ _ _ _ _ _ hres] at e
           obtain⟨e1,e2,_⟩:=GStep.go.inj e
           subst e1;subst e2
           refine⟨σ,_,_,Frame.enter p' h ys .normal,fr0 f ts' (.inRegion ops' (i :: r) :: k') .run :: cs',u',_,rfl,fun main rest=>by rw [hstep,c_enter _ _ _ _ _ _ _ _ _ _ _ _ _ _ hy];rfl,hA',?_,.inr (.inl ⟨rfl,rfl⟩)⟩
           cases hsb:sb h with
           | true=>exact .inl (.cons (enter_rel hP hsb hrow) hsb rfl (hS.mono hA.le))
           | false=>exact .inr ⟨h,xs,ys,hf,hsb,hrow,rfl,rfl,hS.mono hA.le⟩
         ·rename_i v u hok
          simp only at hok
          subst hok
          obtain⟨σ,v',u',fs,hy,hA,hV⟩:=hsound
          rw [Array.empty_append] at hy
          rw [c_panic _ _ _ _ _ _ _ _ _ _ _ _ _ hres] at e
          obtain⟨e1,e2,_⟩:=GStep.go.inj e
          subst e1;subst e2
          exact⟨σ,_,cs,_,cs',u',_,rfl,fun main rest=>by rw [hstep,c_panic _ _ _ _ _ _ _ _ _ _ _ _ _ hy],hA.sub fun e he=>Go.Conc.mem_seen he,
           .inl (hS.top hA.le (.mk f (ht.mono hA.le) (.cons (.inRegion ho (i :: r)) hr) (.panicking hV)) rfl),.inl ⟨rfl,rfl,own_panic,own_panic⟩⟩
         ·rename_i why u hok
          simp only at hok
          subst hok
          exact(c_stuck _ _ _ _ _ _ _ _ hres e).elim
         ·rename_i un u hok
          simp only at hok
          subst hok
          exact(c_uns _ _ _ _ _ _ hsound _ _ hres e).elim
         ·exact hsound.elim
        ·exact absurd ⟨rfl,ops,ops',i,r,k,k',o,o',rfl,rfl,hoi,hoi',hwn,q⟩ hsp
       ·have hwn0:Region.wanted o (yielded ops ts)=false:=by simpa using hwn
        have h1:((ops[i]?).map (Region.wanted · (yielded ops ts))).getD false=false:=by rw [hoi];exact hwn0
        have h2:((ops'[i]?).map (Region.wanted · (yielded ops' ts'))).getD false=false:=by rw [hoi'];show Region.wanted o' _=false;rw [wanted_same ho ht hoi hor];exact hwn0
        rw [c_unwanted _ _ _ _ _ _ _ _ _ _ h1] at e
        obtain⟨e1,e2,_⟩:gor ((fr0 f ts (.inRegion ops (i :: r) :: k) .run).finish undef) cs=g1∧w=w1∧#[]=es:=by simpa using e
        subst e1;subst e2
        exact⟨ρ,_,cs,_,cs',w',#[],rfl,fun main rest=>c_unwanted _ _ _ _ _ _ _ _ _ _ h2,After.refl hw ha,.inl (hS.top (Ren.le_refl _) ((FRel.mk f ht (.cons (.inRegion ho (i :: r)) hr) .run).finish VRel.undef) (finish_fn _ _)),.inl ⟨rfl,rfl,own_finish,own_finish⟩⟩
  | returning =>
   cases hS with
   | base _ =>
    rcases hb with hb | hb
    ·cases hb
    ·exact absurd rfl hb
   | @cons _ _ c c' cs cs' h hs hc kS =>
    obtain⟨fn,fn',b,b',g1',g2,hrs,_⟩:=hP.same f hs
    obtain⟨v,u,evs,hres⟩:=c_return_ok _ _ _ _ _ _ _ _ fn g1' e
    have hsound:=(s_results (F:=inF fb) (ρ:=ρ) hP.tabs fn ht (hP.live f hs fn g1')).sound w w' #[] #[] hw ha
    rw [hres] at hsound
    obtain⟨σ,v',u',fs,hy,hA,hV⟩:=hsound
    rw [Array.empty_append] at hy
    rw [c_return _ _ _ _ _ _ _ _ fn g1' _ _ _ hres] at e
    obtain⟨e1,e2,_⟩:=GStep.go.inj e
    subst e1;subst e2
    have hcF:FRel p p' fb dd Sp ρ c c':=by cases kS with
     | base h=>exact h
     | cons h _ _ _=>exact h
    exact⟨σ,_,cs,_,cs',u',_,rfl,fun main rest=>c_return _ _ _ _ _ _ _ _ fn' g2 _ _ _ (by rw [results_same hrs];exact hy),hA.sub fun e he=>Go.Conc.mem_seen he,.inl (kS.top hA.le ((hcF.mono hA.le).finish hV) (finish_fn _ _)),.inr (.inr ⟨_,_,rfl,rfl,.inl ⟨_,_,rfl,rfl⟩⟩)⟩
  | panicking hv =>
   cases hS with
   | base _ =>
    rcases hb with hb | hb
    ·cases hb
    ·exact absurd rfl hb
   | @cons _ _ c c' cs cs' h hs hc kS =>
    obtain⟨fn,fn',b,b',g1',g2,_⟩:=hP.same f hs
    rw [c_unwind _ _ _ _ _ _ _ _ fn g1'] at e
    obtain⟨e1,e2,_⟩:=GStep.go.inj e
    subst e1;subst e2
    have hcF:FRel p p' fb dd Sp ρ c c':=by cases kS with
     | base h=>exact h
     | cons h _ _ _=>exact h
    exact⟨ρ,_,cs,_,cs',w',#[],rfl,fun main rest=>c_unwind _ _ _ _ _ _ _ _ fn' g2 _,After.refl hw ha,.inl (kS.top (Ren.le_refl _) (hcF.raise hc hv) (raise_fn _ _)),.inr (.inr ⟨_,_,rfl,rfl,.inr ⟨_,_,rfl,rfl⟩⟩)⟩
end
end Go.Proofs.YtdoibgmmijhlfaaGreat.Sm
namespace Go.Proofs.YtdoibgmmijhlfaaGreat.Sm
open Go
set_option linter.unusedVariables false
abbrev TapeT:=Nat→Question→Nat
end Go.Proofs.YtdoibgmmijhlfaaGreat.Sm
namespace Go
def World.taped(w:World)(t:Nat→Question→Nat):World:={ w with tape:=t }
end Go
namespace Go.Proofs.YtdoibgmmijhlfaaGreat.Sm
open Go
set_option linter.unusedVariables false
def Agree(t s:TapeT)(a b:Nat):Prop:=∀ i q,a≤i→i<b→t i q=s i q
theorem Agree.right{t s:TapeT}{a b c:Nat}(h:Agree t s a c)(k:a≤b):Agree t s b c:=fun i q x y=>h i q (Nat.le_trans k x) y
def TapeOk{α:Type}(w:World)(r:Result α×Array Event)(run:TapeT→Result α×Array Event):Prop :=
 match r with
 | (.ok a u,fs)=>u.tape=w.tape∧w.drawn≤u.drawn∧∀ t,Agree t w.tape w.drawn u.drawn→run t=(.ok a (u.taped t),fs)
 | (.halt (.panic v) u,fs)=>u.tape=w.tape∧w.drawn≤u.drawn∧∀ t,Agree t w.tape w.drawn u.drawn→run t=(.halt (.panic v) (u.taped t),fs)
 | _=>True
section
variable {p p':Program}{F:FuncId→Prop}{G:Cx}{α β γ δ:Type}{P:Ren G→α→β→Prop}{ρ:Ren G}
theorem TapeOk.same{w v:World}{r:Result α×Array Event}{run run':TapeT→Result α×Array Event}(h:TapeOk v r run)(h1:v.tape=w.tape)(h2:v.drawn=w.drawn)(h3:∀ t,run' t=run t):TapeOk w r run':=by
 unfold TapeOk at h ⊢
 split
 ·obtain⟨a,b,c⟩:=h
  exact⟨a.trans h1,by omega,fun t ht=>by rw [h3];exact c t (by rw [h1,h2];exact ht)⟩
 ·obtain⟨a,b,c⟩:=h
  exact⟨a.trans h1,by omega,fun t ht=>by rw [h3];exact c t (by rw [h1,h2];exact ht)⟩
 ·trivial
theorem SRel.taped{s:Sem α}{s':Sem β}(h:SRel p p' F P ρ s s'):∀ (w w':World) (es:Array Event),WRel ρ F w w'→Aligned w w'→TapeOk w (s.runT p w es) (fun t=>s.runT p (w.taped t) es):=by
 induction h with
 | pure h=>intro w w' es hw ha;exact⟨rfl,Nat.le_refl _,fun t _=>rfl⟩
 | @load ρ a b k l h hk ih =>
  intro w w' es hw ha
  have e0:∀ t,(w.taped t).cell? a=w.cell? a:=fun t=>rfl
  cases hc:w.cell? a with
  | none =>
   obtain⟨o,o',h1,h2,hr⟩:=hw.objs _ _ h.blk
   obtain⟨why,hwhy⟩:=loadAt_none (p:=p) hr h1
   simp only [Sem.runT,hc,hwhy]
   trivial
  | some x =>
   obtain⟨xs,ys,e,z,z',y,h1,h2,h3,h4,has,hbs,_,_,hc2,hv,hne⟩:=hw.cell h hc
   simp only [Sem.runT,e0,hc]
   exact ih x y hv w w' _ hw ha
 | @store ρ a b x y k l h hv hk ih =>
  intro w w' es hw ha
  have hna:(∃ cs,x=.agg cs)∨(∃ cs,x=.tuple cs)∨((∀ cs,x≠.agg cs)∧(∀ cs,x≠.tuple cs)):=by
   cases hv <;> first | exact .inl ⟨_,rfl⟩ | exact .inr (.inl ⟨_,rfl⟩) | exact .inr (.inr ⟨fun _=>Value.noConfusion,fun _=>Value.noConfusion⟩)
  rcases hna with ⟨cs,rfl⟩ | ⟨cs,rfl⟩ | ⟨n1,n2⟩
  ·simp only [Sem.runT];trivial
  ·simp only [Sem.runT];trivial
  have e1:∀ w es,(Sem.store .plain a x k).runT p w es=match w.cell? a with
    | some _ => if w.frozen? a then (.halt (.unsupported (.unsafePointer "a write to bytes that a string shares")) w, es) else k.runT p (w.setCell a x) (es.push ⟨.cell a, true, false⟩)
    | none=>match w.farStore p a x false with
     | .ok (w,touched)=>k.runT p w (es++touched.toArray.map (⟨.cell ·,true,false⟩))
     | .error h=>(.halt h w,es):=by
   intro w es
   cases x <;> first | rfl | exact absurd rfl (n1 _) | exact absurd rfl (n2 _)
  have e0:∀ t,(w.taped t).cell? a=w.cell? a:=fun t=>rfl
  have f0:∀ t,(w.taped t).frozen? a=w.frozen? a:=fun t=>rfl
  have s0:∀ t,(w.taped t).setCell a x=(w.setCell a x).taped t:=fun t=>rfl
  simp only [e1,e0,f0,s0]
  cases hc:w.cell? a with
  | none =>
   obtain⟨o,o',h1,h2,hr⟩:=hw.objs _ _ h.blk
   obtain⟨why,hwhy⟩:=storeAt_none (p:=p) hr h1
   simp only [hwhy]
   trivial
  | some v =>
   by_cases hf:w.frozen? a=true
   ·simp only [hf,if_true];trivial
   ·have hf0:w.frozen? a=false:=by simpa using hf
    obtain⟨hf',hA⟩:=hw.store ha h hc hf0 hv
    simp only [hf0,if_false,Bool.false_eq_true]
    exact TapeOk.same (ih (w.setCell a x) (w'.setCell b y) _ hA.wrel ha) rfl rfl fun t=>rfl
 | @new ρ o o' k l h hk ih =>
  intro w w' es hw ha
  obtain⟨σ,hs,hA⟩:=hw.push ha h
  exact TapeOk.same (ih σ _ _ hA.le hs { w with heap:=w.heap.push o } _ es hA.wrel ha) rfl rfl fun t=>rfl
 | @shape ρ r r' k l h hn hk i1 i2 =>
  intro w w' es hw ha
  obtain⟨o,o',h1,h2,hr⟩:=hw.objs _ _ h
  have e1:∀ t,(Sem.shape r k).runT p (w.taped t) es=(k (w.shape? r)).runT p (w.taped t) es:=fun t=>rfl
  have e2:(Sem.shape r k).runT p w es=(k (w.shape? r)).runT p w es:=rfl
  simp only [e1,e2]
  cases hr with
  | @row xs ys e z z' hx =>
   have s1:w.shape? r=some (e,xs.size):=by simp only [World.shape?,h1]
   rw [s1]
   exact i2 e xs.size ys.size (hx.imp id fun q=>q.1.size) w w' es hw ha
  | number hx =>
   have s1:w.shape? r=none:=by simp only [World.shape?,h1]
   rw [s1]
   exact i1 w w' es hw ha
 | @getNum ρ r r' k l h hk ih =>
  intro w w' es hw ha
  obtain⟨o,o',h1,h2,hr⟩:=hw.objs _ _ h
  have e0:∀ t,(w.taped t).heap=w.heap:=fun t=>rfl
  cases hr with
  | row hx=>simp only [Sem.runT,h1];trivial
  | @number a b n hx =>
   simp only [Sem.runT,e0,h1]
   exact ih a b n hx w w' _ hw ha
 | @choose ρ q k l hk ih =>
  intro w w' es hw ha
  by_cases hq:q.forced=true
  ·simp only [Sem.runT,hq,if_true]
   exact ih 0 w w' es hw ha
  ·simp only [Sem.runT,hq,if_false,Bool.false_eq_true]
   have ha2:Aligned { w with drawn:=w.drawn+1 } { w' with drawn:=w'.drawn+1 }:=fun i r=>by
    have:=ha (1+i) r
    simpa only [Nat.add_assoc] using this
   have hw2:WRel ρ F { w with drawn:=w.drawn+1 } { w' with drawn:=w'.drawn+1 }:=⟨hw.objs,hw.base⟩
   have:=ih (q.cut (w.tape w.drawn q)) { w with drawn:=w.drawn+1 } { w' with drawn:=w'.drawn+1 } es hw2 ha2
   unfold TapeOk at this ⊢
   split
   ·rename_i a u fs e
    rw [e] at this
    obtain⟨h1,h2,h3⟩:=this
    refine⟨h1,by have:w.drawn+1≤u.drawn:=h2;omega,fun t ht=>?_⟩
    have h4:w.drawn+1≤u.drawn:=h2
    have:(w.taped t).tape (w.taped t).drawn q=w.tape w.drawn q:=ht w.drawn q (Nat.le_refl _) (by omega)
    show Sem.runT p (k (q.cut ((w.taped t).tape (w.taped t).drawn q))) _ es=_
    rw [this]
    exact h3 t (ht.right (Nat.le_succ _))
   ·rename_i v u fs e
    rw [e] at this
    obtain⟨h1,h2,h3⟩:=this
    refine⟨h1,by have:w.drawn+1≤u.drawn:=h2;omega,fun t ht=>?_⟩
    have h4:w.drawn+1≤u.drawn:=h2
    have:(w.taped t).tape (w.taped t).drawn q=w.tape w.drawn q:=ht w.drawn q (Nat.le_refl _) (by omega)
    show Sem.runT p (k (q.cut ((w.taped t).tape (w.taped t).drawn q))) _ es=_
    rw [this]
    exact h3 t (ht.right (Nat.le_succ _))
   ·trivial
 | program _ ih=>intro w w' es hw ha;exact ih w w' es hw ha
 | noRoom _ ih=>intro w w' es hw ha;exact ih w w' _ hw ha
 | panic h=>intro w w' es hw ha;exact⟨rfl,Nat.le_refl _,fun t _=>rfl⟩
 | stuck=>intro w w' es hw ha;trivial
 | unsupported hu=>intro w w' es hw ha;trivial
 | doom h =>
  intro w w' es hw ha
  obtain⟨x,u,fs,e,⟨why,rfl⟩ | ⟨x',rfl,hx⟩⟩:=h w es <;> rw [e] <;> trivial
end
def Kind(p:Program)(fr:Frame)(cs:List Frame)(w:World):Prop :=
 (∃ o w1 es,∀ m0 rest,stepG p m0 (gor fr (cs++rest)) w=.ended o w1 es) ∨
  ∃ fr1 cs1 w1 es,(∀ m0 rest,stepG p m0 (gor fr (cs++rest)) w=.go (gor fr1 (cs1++rest)) w1 es)∧w1.tape=w.tape∧w.drawn≤w1.drawn ∧
   ∀ t,Agree t w.tape w.drawn w1.drawn→∀ m0 rest,stepG p m0 (gor fr (cs++rest)) (w.taped t)=.go (gor fr1 (cs1++rest)) (w1.taped t) es
section
variable {p p':Program}{G:Cx}{fb sb:FuncId→Bool}{dd:FuncId→Nat→Bool}{Sp:FuncId→Oper→Oper→Prop}{ρ σ:Ren G}
theorem Kind.still{fr fr1:Frame}{cs cs1:List Frame}{w:World}(h:∀ m0 rest w,stepG p m0 (gor fr (cs++rest)) w=.go (gor fr1 (cs1++rest)) w #[]):Kind p fr cs w :=
 .inr ⟨fr1,cs1,w,#[],fun m0 rest=>h m0 rest w,rfl,Nat.le_refl _,fun t _ m0 rest=>h m0 rest _⟩
theorem step_kind(hP:Pair p p' G fb sb dd Sp){fr fr':Frame}{cs cs':List Frame}(hS:StRel p p' fb sb dd Sp ρ (fr :: cs) (fr' :: cs'))(hb:fr.mode=.run∨cs≠[])(hsp:¬ AtSp Sp fr fr'){w w':World}(hw:WRel ρ (inF fb) w w')
  (ha:Aligned w w'):Kind p fr cs w:=by
 have hF:FRel p p' fb dd Sp ρ fr fr':=by cases hS with
  | base h=>exact h
  | cons h _ _ _=>exact h
 cases hF with
 | @mk f ts ts' ht k k' hk m m' hm =>
  cases hm with
  | run =>
   cases hk with
   | nil=>exact .still fun m0 rest w=>c_nil ..
   | @cons i i' k k' hi hr =>
    cases hi with
    | inBlock id=>exact .still fun m0 rest w=>c_inBlock ..
    | inLoop hb'=>exact .still fun m0 rest w=>c_inLoop ..
    | code hc =>
     cases hc with
     | skip=>exact .still fun m0 rest w=>c_skip ..
     | ret=>exact .still fun m0 rest w=>c_ret ..
     | exit id =>
      cases hx:exitTo id k with
      | some r=>exact .still fun m0 rest w=>c_exit _ _ _ _ _ _ _ _ r hx
      | none =>
       exact .inl ⟨_,_,_,fun m0 rest=>by simp only [gor,fr0,stepG,stepG.exec,hx];rfl⟩
     | @seq a b a' b' h1 h2=>exact .still fun m0 rest w=>c_seq ..
     | @cond c hcg a b a' b' h1 h2 =>
      cases hv:(fr0 f ts (.code (.cond c a b) :: k) .run).eval c with
      | bool t=>exact .still fun m0 rest w=>c_cond _ _ _ _ _ _ _ _ _ _ t hv
      | _ =>
       exact .inl ⟨_,_,_,fun m0 rest=>by simp only [gor,fr0,stepG,stepG.exec] at hv ⊢;rw [hv]⟩
     | @block id b b' h1=>exact .still fun m0 rest w=>c_block ..
     | @loop b b' h1=>exact .still fun m0 rest w=>c_loop ..
     | @region id ops ops' d ho =>
      cases d with
      | false=>exact .still fun m0 rest w=>c_region ..
      | true =>
       refine .inr ⟨_,cs,_,_,fun m0 rest=>c_draw _ _ _ _ _ _ _ _ _,rfl,Nat.le_succ _,fun t hA m0 rest=>?_⟩
       rw [c_draw,show (w.taped t).tape (w.taped t).drawn (.order f id)=w.tape w.drawn (.order f id) from hA _ _ (Nat.le_refl _) (Nat.lt_succ_self _)]
       rfl
    | @inRegion ops ops' ho r =>
     cases r with
     | nil=>exact .still fun m0 rest w=>c_regionEnd ..
     | cons i r =>
      cases hoi:ops[i]? with
      | none=>exact .still fun m0 rest w=>c_unwanted _ _ _ _ _ _ _ _ _ _ (by rw [hoi];rfl)
      | some o =>
       obtain⟨o',hoi',hor⟩:=ho.get hoi
       by_cases hwn:Region.wanted o (yielded ops ts)=true
       ·rcases hor.op with ⟨q1,q2,q3⟩ | q
        ·have hrel:=s_execOp (ρ:=ρ) (F:=inF fb) hP.tabs hP.glob fb (dd f) (fun f=>Iff.rfl) hP.ent (fr0 f ts (.inRegion ops (i :: r) :: k) .run).eval (fr0 f ts' (.inRegion ops' (i :: r) :: k') .run).eval o (fun v=>⟨rfl,rfl⟩)
          (fun x hx=>eval_rel ht _ _ _ _ x hx) q3
         have hsound:=hrel.sound w w' #[] #[] hw ha
         have htape:=hrel.taped w w' #[] hw ha
         have hst:∀ m0 rest w,stepG p m0 (gor (fr0 f ts (.inRegion ops (i :: r) :: k) .run) (cs++rest)) w=stepG.apply p true (fr0 f ts (.inRegion ops (i :: r) :: k) .run) (cs++rest) none (execOp (fr0 f ts (.inRegion ops (i :: r) :: k) .run).eval o) w:=fun m0 rest w=>c_oper _ _ _ _ _ _ _ _ _ _ o hoi hwn
         generalize hres:(execOp (fr0 f ts (.inRegion ops (i :: r) :: k) .run).eval o).runT p w #[]=res at hsound htape
         obtain⟨rs,evs⟩:=res
         cases rs with
         | ok a u =>
          obtain⟨σ,b,u',fs,hy,hA,hN⟩:=hsound
          obtain⟨t1,t2,t3⟩:=htape
          cases hN with
          | value hv=>exact .inr ⟨_,cs,u,_,fun m0 rest=>by rw [hst];exact c_value _ _ _ _ _ _ _ _ _ _ _ _ _ hres,t1,t2,fun t hA m0 rest=>by rw [hst];exact c_value _ _ _ _ _ _ _ _ _ _ _ _ _ (t3 t hA)⟩
          | skip=>exact .inr ⟨_,cs,u,_,fun m0 rest=>by rw [hst];exact c_none _ _ _ _ _ _ _ _ _ _ _ _ hres,t1,t2,fun t hA m0 rest=>by rw [hst];exact c_none _ _ _ _ _ _ _ _ _ _ _ _ (t3 t hA)⟩
          | enter hf hrow=>exact .inr ⟨_,fr0 f ts (.inRegion ops (i :: r) :: k) .run :: cs,u,_,fun m0 rest=>by rw [hst];exact c_enter _ _ _ _ _ _ _ _ _ _ _ _ _ _ hres,t1,t2,fun t hA m0 rest=>by rw [hst];exact c_enter _ _ _ _ _ _ _ _ _ _ _ _ _ _ (t3 t hA)⟩
         | halt h u =>
          cases h with
          | panic v =>
           obtain⟨t1,t2,t3⟩:=htape
           exact .inr ⟨_,cs,u,_,fun m0 rest=>by rw [hst];exact c_panic _ _ _ _ _ _ _ _ _ _ _ _ _ hres,t1,t2,fun t hA m0 rest=>by rw [hst];exact c_panic _ _ _ _ _ _ _ _ _ _ _ _ _ (t3 t hA)⟩
          | stuck why =>
           exact .inl ⟨_,_,_,fun m0 rest=>by rw [hst];simp only [stepG.apply,if_true,hres];rfl⟩
          | unsupported un =>
           have hun:∀ g,un≠.initOrder g:=hsound
           cases un <;> first
            | exact absurd rfl (hun _)
            | exact .inl ⟨_,_,_,fun m0 rest=>by rw [hst];simp only [stepG.apply,if_true,hres];rfl⟩
          | _=>exact hsound.elim
        ·exact absurd ⟨rfl,ops,ops',i,r,k,k',o,o',rfl,rfl,hoi,hoi',hwn,q⟩ hsp
       ·have hwn0:Region.wanted o (yielded ops ts)=false:=by simpa using hwn
        exact .still fun m0 rest w=>c_unwanted _ _ _ _ _ _ _ _ _ _ (by rw [hoi];exact hwn0)
  | returning =>
   cases hS with
   | base _ =>
    rcases hb with hb | hb
    ·cases hb
    ·exact absurd rfl hb
   | @cons _ _ c c' cs cs' h hs hc kS =>
    obtain⟨fn,fn',b,b',g1',g2,_⟩:=hP.same f hs
    have hrel:=s_results (F:=inF fb) (ρ:=ρ) (p:=p) (p':=p') hP.tabs fn ht (hP.live f hs fn g1')
    have hsound:=hrel.sound w w' #[] #[] hw ha
    have htape:=hrel.taped w w' #[] hw ha
    generalize hres:(results fn ts).runT p w #[]=res at hsound htape
    obtain⟨rs,evs⟩:=res
    cases rs with
    | ok v u =>
     obtain⟨t1,t2,t3⟩:=htape
     exact .inr ⟨_,cs,u,_,fun m0 rest=>c_return _ _ _ _ _ _ _ _ fn g1' _ _ _ hres,t1,t2,fun t hA m0 rest=>c_return _ _ _ _ _ _ _ _ fn g1' _ _ _ (t3 t hA)⟩
    | halt h u =>
     cases h <;> exact .inl ⟨_,_,_,fun m0 rest=>by simp only [gor,fr0,stepG,unwind,g1',hres];rfl⟩
  | panicking hv =>
   cases hS with
   | base _ =>
    rcases hb with hb | hb
    ·cases hb
    ·exact absurd rfl hb
   | @cons _ _ c c' cs cs' h hs hc kS =>
    obtain⟨fn,fn',b,b',g1',g2,_⟩:=hP.same f hs
    exact .still fun m0 rest w=>c_unwind _ _ _ _ _ _ _ _ fn g1' _
end
end Go.Proofs.YtdoibgmmijhlfaaGreat.Sm
namespace Go.Proofs.YtdoibgmmijhlfaaGreat.Sm
open Go
set_option linter.unusedVariables false
inductive Will (p:Program) (R:Ending→World→Prop):Frame→List Frame→World→Prop where
 | leaf {fr:Frame} {w:World} (t:TapeT) {e:Ending} (hm:fr.mode≠.run) (h:fr.leaving p (w.taped t) e) (r:R e (w.taped t)):Will p R fr [] w
 | step {fr:Frame} {cs:List Frame} {w:World} (n:TapeT→Frame×List Frame×World)
   (h:∀ t,∃ es,∀ m0 rest,stepG p m0 (gor fr (cs++rest)) (w.taped t)=.go (gor (n t).1 ((n t).2.1++rest)) (n t).2.2 es) (k:∀ t,Will p R (n t).1 (n t).2.1 (n t).2.2):Will p R fr cs w
structure LS where
 fr:Frame
 cs:List Frame
 w:World
section
variable (p:Program){G:Cx}(fb:FuncId→Bool)
def Good(G:Cx)(s:LS):Prop:=∃ (σ:Ren G) (fr':Frame) (cs':List Frame) (w':World),StRel p p fb fb (fun _ _=>false) (fun _ _ _=>False) σ (s.fr :: s.cs) (fr' :: cs')∧WRel σ (inF fb) s.w w'
end
section
variable {p:Program}{G:Cx}{fb:FuncId→Bool}{R:Ending→World→Prop}
theorem gor_inj{a b:Frame}{cs ds:List Frame}(h:gor a cs=gor b ds):a=b∧cs=ds:=by
 simp only [gor,Goroutine.mk.injEq] at h
 exact⟨h.1,h.2.1⟩
theorem WRel.taped{ρ:Ren G}{F:FuncId→Prop}{w w':World}(h:WRel ρ F w w')(t:TapeT):∃ w2,WRel ρ F (w.taped t) w2∧Aligned (w.taped t) w2 :=
 ⟨{ w' with tape:=t,drawn:=w.drawn },⟨h.objs,h.base⟩,fun i q=>rfl⟩
theorem not_atSp{fr fr':Frame}:¬ AtSp (fun _ _ _=>False) fr fr':=fun ⟨_,_,_,_,_,_,_,_,_,_,_,_,_,_,h⟩=>h
theorem good_kind(hP:Pair p p G fb fb (fun _ _=>false) (fun _ _ _=>False)){s:LS}(hs:Good p fb G s)(hb:s.fr.mode=.run∨s.cs≠[])(t:TapeT):Kind p s.fr s.cs (s.w.taped t):=by
 obtain⟨σ,fr',cs',w',hS,hw⟩:=hs
 obtain⟨w2,h1,h2⟩:=hw.taped t
 exact step_kind hP hS hb not_atSp h1 h2
theorem good_next(hP:Pair p p G fb fb (fun _ _=>false) (fun _ _ _=>False)){s s1:LS}(hs:Good p fb G s)(hb:s.fr.mode=.run∨s.cs≠[]){t:TapeT}{m0:Bool}{es:Array Event}(e:stepG p m0 (gor s.fr s.cs) (s.w.taped t)=.go (gor s1.fr s1.cs) s1.w es):Good p fb G s1:=by
 obtain⟨σ,fr',cs',w',hS,hw⟩:=hs
 obtain⟨w2,h1,h2⟩:=hw.taped t
 obtain⟨τ,fr1,cs1,fr1',cs1',u',fs,hg,_,hA,hB,hSh⟩:=sim_step hP hS hb not_atSp h1 h2 e
 obtain⟨rfl,rfl⟩:=gor_inj hg.symm
 rcases hB with hB | ⟨f,xs,ys,hf,hsb,_⟩
 ·exact⟨τ,fr1',cs1',u',hB,hA.wrel⟩
 ·rw [hf] at hsb;cases hsb
def Spec(p:Program)(s:LS)(Bad:LS→Prop)(r:TapeT×Option LS):Prop :=
 (r.2=none∧s.cs=[]∧s.fr.mode≠.run) ∨
 (r.2=none∧(s.fr.mode=.run∨s.cs≠[])∧∃ o w1 es,∀ m0 rest,stepG p m0 (gor s.fr (s.cs++rest)) (s.w.taped r.1)=.ended o w1 es) ∨
 ∃ s1 es,r.2=some s1∧Bad s1∧s.w.drawn≤s1.w.drawn∧∀ t,Agree t r.1 s.w.drawn s1.w.drawn→∀ m0 rest,stepG p m0 (gor s.fr (s.cs++rest)) (s.w.taped t)=.go (gor s1.fr (s1.cs++rest)) (s1.w.taped t) es
theorem spec_ex(hP:Pair p p G fb fb (fun _ _=>false) (fun _ _ _=>False)){s:LS}(hs:Good p fb G s)(hw:¬ Will p R s.fr s.cs s.w):∃ r,Spec p s (fun s=>Good p fb G s∧¬ Will p R s.fr s.cs s.w) r:=by
 by_cases hb:s.fr.mode=.run∨s.cs≠[]
 ·apply Classical.byContradiction
  intro hno
  apply hw
  have each:∀ t,∃ n:Frame×List Frame×World,(∃ es,∀ m0 rest,stepG p m0 (gor s.fr (s.cs++rest)) (s.w.taped t)=.go (gor n.1 (n.2.1++rest)) n.2.2 es)∧Will p R n.1 n.2.1 n.2.2:=by
   intro t
   rcases good_kind hP hs hb t with ⟨o,w1,es,h⟩ | ⟨fr1,cs1,w1,es,h1,h2,h3,h4⟩
   ·exact absurd ⟨(t,none),.inr (.inl ⟨rfl,hb,o,w1,es,h⟩)⟩ hno
   ·refine⟨(fr1,cs1,w1),⟨es,h1⟩,?_⟩
    apply Classical.byContradiction
    intro hnw
    have hg1:Good p fb G ⟨fr1,cs1,w1⟩:=good_next hP hs hb (s1:=⟨fr1,cs1,w1⟩) (by have:=h1 true [];simpa using this)
    exact hno ⟨(t,some ⟨fr1,cs1,w1⟩),.inr (.inr ⟨⟨fr1,cs1,w1⟩,es,rfl,⟨hg1,hnw⟩,h3,fun t' ht'=>h4 t' ht'⟩)⟩
  exact .step (fun t=>Classical.choose (each t)) (fun t=>(Classical.choose_spec (each t)).1) (fun t=>(Classical.choose_spec (each t)).2)
 ·refine⟨(fun _ _=>0,none),.inl ⟨rfl,?_,?_⟩⟩
  ·exact Classical.byContradiction fun h=>hb (.inr h)
  ·exact fun h=>hb (.inl h)
def c0 : Frame := { fn := 0, tmps := #[], todo := [.code (.refuse "")], defers := [{ target := .nil, args := #[] }], mode := .run, kind := .normal, roundOf := none }
theorem c0_run(w:World):∃ o w1 es,stepG p true (gor c0 []) w=.ended o w1 es:=⟨_,_,_,rfl⟩
theorem c0_panics(chain:List PanicEntry)(w:World):∃ o w1 es,stepG p true (gor (c0.raise chain) []) w=.ended o w1 es:=⟨_,_,_,rfl⟩
structure Way(p:Program)(R:Ending→World→Prop)(s0:LS) where
 seq:Nat→Option LS
 tp:Nat→TapeT
 zero:seq 0=some s0
 spec:∀ k s,seq k=some s→Spec p s (fun s=>¬ Will p R s.fr s.cs s.w) (tp k,seq (k+1))
 bad:∀ k s,seq k=some s→¬ Will p R s.fr s.cs s.w
 gone:∀ k,seq k=none→seq (k+1)=none
theorem way_ex(hP:Pair p p G fb fb (fun _ _=>false) (fun _ _ _=>False)){s0:LS}(h0:Good p fb G s0)(hw:¬ Will p R s0.fr s0.cs s0.w):∃ W:Way p R s0,∀ k s,W.seq k=some s→Good p fb G s:=by
 let Bad:={ s:LS // Good p fb G s∧¬ Will p R s.fr s.cs s.w }
 let Q (s:Bad) (r:TapeT×Option Bad):Prop:=Spec p s.1 (fun s=>Good p fb G s∧¬ Will p R s.fr s.cs s.w) (r.1,r.2.map (·.1))
 have ex:∀ s:Bad,∃ r:TapeT×Option Bad,Q s r:=by
  intro s
  obtain⟨⟨t,o⟩,hr⟩:=spec_ex hP s.2.1 s.2.2
  cases o with
  | none=>exact⟨(t,none),hr⟩
  | some s1 =>
   rcases hr with ⟨h,_⟩ | ⟨h,_⟩ | ⟨s2,es,h1,h2,h3,h4⟩
   ·cases h
   ·cases h
   ·cases h1
    exact⟨(t,some ⟨s1,h2⟩),.inr (.inr ⟨s1,es,rfl,h2,h3,h4⟩)⟩
 let nx (s:Bad):TapeT×Option Bad:=Classical.choose (ex s)
 have nxs:∀ s,Q s (nx s):=fun s=>Classical.choose_spec (ex s)
 let bs:Nat→Option Bad:=fun k=>Nat.rec (some ⟨s0,h0,hw⟩) (fun _ o=>o.bind fun s=>(nx s).2) k
 have bs1:∀ k,bs (k+1)=(bs k).bind fun s=>(nx s).2:=fun k=>rfl
 refine⟨⟨fun k=>(bs k).map (·.1),fun k=>match bs k with | some s=>(nx s).1 | none=>fun _ _=>0,rfl,?_,?_,?_⟩,?_⟩
 ·intro k s hk
  obtain⟨b,hb,rfl⟩:=Option.map_eq_some_iff.1 hk
  simp only [bs1,hb,Option.bind_some]
  have:=nxs b
  rcases this with h | h | ⟨s1,es,h1,h2,h3,h4⟩
  ·exact .inl h
  ·exact .inr (.inl h)
  ·exact .inr (.inr ⟨s1,es,h1,h2.2,h3,h4⟩)
 ·intro k s hk
  obtain⟨b,hb,rfl⟩:=Option.map_eq_some_iff.1 hk
  exact b.2.2
 ·intro k hk
  have:bs k=none:=by simpa using hk
  simp [bs1,this]
 ·intro k s hk
  obtain⟨b,hb,rfl⟩:=Option.map_eq_some_iff.1 hk
  exact b.2.1
section
variable {s0:LS}(W:Way p R s0)
theorem Way.next{k:Nat}{s s1:LS}(h:W.seq k=some s)(h1:W.seq (k+1)=some s1):s.w.drawn≤s1.w.drawn∧∃ es,∀ t,Agree t (W.tp k) s.w.drawn s1.w.drawn→∀ m0 rest,stepG p m0 (gor s.fr (s.cs++rest)) (s.w.taped t)=.go (gor s1.fr (s1.cs++rest)) (s1.w.taped t) es:=by
 rcases W.spec k s h with ⟨e,_⟩ | ⟨e,_⟩ | ⟨s2,es,e,_,h3,h4⟩
 ·simp only at e;rw [h1] at e;cases e
 ·simp only at e;rw [h1] at e;cases e
 ·simp only at e;rw [h1] at e;cases e
  exact⟨h3,es,h4⟩
theorem Way.before:∀ {k j:Nat} {s s1:LS},W.seq k=some s→W.seq (k+j)=some s1→s.w.drawn≤s1.w.drawn
 | k,0,s,s1,h,h1=>by
  rw [Nat.add_zero,h] at h1
  cases h1;exact Nat.le_refl _
 | k,j+1,s,s1,h,h1=>by
  cases hm:W.seq (k+j) with
  | none=>rw [← Nat.add_assoc,W.gone _ hm] at h1;cases h1
  | some s2=>exact Nat.le_trans (Way.before h hm) (W.next hm h1).1
def Way.At(k i:Nat):Prop:=∃ s,W.seq k=some s∧s.w.drawn≤i∧∀ s1,W.seq (k+1)=some s1→i<s1.w.drawn
theorem Way.only{k j i:Nat}(h:W.At k i)(h':W.At j i):k=j:=by
 have half:∀ {k j:Nat},W.At k i→W.At j i→k<j→False:=by
  rintro k j ⟨s,hs,h1,h2⟩ ⟨s',hs',h1',_⟩ hlt
  obtain⟨d,rfl⟩:∃ d,j=k+1+d:=⟨j-(k+1),by omega⟩
  cases hm:W.seq (k+1) with
  | none =>
   have:∀ d,W.seq (k+1+d)=none:=fun d=>by
    induction d with
    | zero=>exact hm
    | succ d ih=>exact W.gone _ ih
   rw [this] at hs';cases hs'
  | some s1 =>
   have:=h2 s1 hm
   have:=W.before hm hs'
   omega
 rcases Nat.lt_trichotomy k j with hlt | rfl | hlt
 ·exact(half h h' hlt).elim
 ·rfl
 ·exact(half h' h hlt).elim
noncomputable def Way.tape:TapeT:=open Classical in fun i q=>if h:∃ k,W.At k i then W.tp (Classical.choose h) i q else 0
theorem Way.tape_at{k i:Nat}(h:W.At k i)(q:Question):W.tape i q=W.tp k i q:=by
 have hx:∃ k,W.At k i:=⟨k,h⟩
 have:Classical.choose hx=k:=W.only (Classical.choose_spec hx) h
 unfold Way.tape
 rw [dif_pos hx,this]
theorem Way.runs:∀ {k:Nat} {s:LS},W.seq k=some s→runN p k (lone s0.fr (s0.cs++[c0]) (s0.w.taped W.tape))=.next (lone s.fr (s.cs++[c0]) (s.w.taped W.tape))
 | 0,s,h=>by
  rw [W.zero] at h
  cases h;rfl
 | k+1,s1,h1=>by
  cases hm:W.seq k with
  | none=>rw [W.gone _ hm] at h1;cases h1
  | some s =>
   obtain⟨hle,es,hst⟩:=W.next hm h1
   have hA:Agree W.tape (W.tp k) s.w.drawn s1.w.drawn:=fun i q hi hlt=>W.tape_at ⟨s,hm,hi,fun s2 h2=>by rw [h1] at h2;cases h2;exact hlt⟩ q
   have hstep:step p (lone s.fr (s.cs++[c0]) (s.w.taped W.tape))=.next (lone s1.fr (s1.cs++[c0]) (s1.w.taped W.tape)):=by
    apply step_lone_go
    have:=hst W.tape hA true [c0]
    simp only [gor] at this
    rw [this]
    rfl
   rw [runN_add,Way.runs hm]
   simp only [runN,hstep]
end
theorem runN_ended{m:Machine}{o:Outcome}{w1:World}(h:step p m=.ended o w1):∀ {n:Nat},1≤n→∀ m',runN p n m≠.next m'
 | n+1,_,m'=>by simp only [runN,h];intro q;cases q
theorem step_ended{fr:Frame}{cs:List Frame}{w:World}{o:Outcome}{w1:World}{es:Array Event}(h:stepG p true (gor fr cs) w=.ended o w1 es):∃ o w1,step p (lone fr cs w)=.ended o w1:=by
 refine⟨o,w1,?_⟩
 simp only [gor] at h
 rw [step,stepT,move_lone]
 simp [runT,lone,Array.swapAt!,h]
theorem base_stops(hP:Pair p p G fb fb (fun _ _=>false) (fun _ _ _=>False)){s:LS}(hs:Good p fb G s)(h1:s.cs=[])(h2:s.fr.mode≠.run)(w:World)(n:Nat)(hn:1≤n)(fr:Frame)(cs2:List Frame)(w':World):runN p n (lone s.fr (s.cs++[c0]) w)≠.next (lone fr (cs2++[c0]) w'):=by
 obtain⟨σ,fr',cs',w2,hS,hw⟩:=hs
 rw [h1] at hS ⊢
 have key:(∃ o w1 es,stepG p true (gor s.fr [c0]) w=.ended o w1 es)∨∃ c w1 es,stepG p true (gor s.fr [c0]) w=.go (gor c []) w1 es∧∀ w,∃ o w1 es,stepG p true (gor c []) w=.ended o w1 es:=by
  cases hS with
  | base h =>
   generalize s.fr=f at h h2
   cases h with
   | @mk f ts ts' ht k k' hk m m' hm =>
    cases hm with
    | run=>exact absurd rfl h2
    | returning =>
     cases hf:p.funcs[f]? with
     | none=>exact .inr ⟨c0,w,#[],by simp only [gor,fr0,stepG,unwind,hf,doReturn];rfl,c0_run⟩
     | some fn =>
      cases hr:(results fn ts).runT p w #[] with
      | mk r es =>
       cases r with
       | ok v w1=>exact .inr ⟨c0,w1,_,c_return _ _ _ _ _ _ _ _ fn hf _ _ _ hr,c0_run⟩
       | halt x w1=>cases x <;> exact .inl ⟨_,_,_,by simp only [gor,fr0,stepG,unwind,hf,hr];rfl⟩
    | @panicking x y hv =>
     refine .inr ⟨c0.raise [{ v:=x,recovered:=false }],w,#[],?_,fun w=>c0_panics _ w⟩
     simp only [gor,fr0,stepG,unwind]
     have:Frame.catches p { fn:=f,tmps:=ts,todo:=k,defers:=[],mode:=.panicking [{ v:=x,recovered:=false }],kind:=.normal,roundOf:=none }=false:=by
      unfold Frame.catches
      cases hk with
      | nil=>split <;> simp_all
      | cons hi hr=>cases hi <;> (split <;> simp_all)
     exact if_neg fun e=>Bool.false_ne_true (this.symm.trans e)
 obtain⟨n,rfl⟩:∃ m,n=m+1:=⟨n-1,by omega⟩
 rcases key with ⟨o,w1,es,h⟩ | ⟨c,w1,es,h,hc⟩
 ·obtain⟨o,w1,he⟩:=step_ended h
  exact runN_ended he (by omega) _
 ·have hst:step p (lone s.fr ([]++[c0]) w)=.next (lone c [] w1):=by
   apply step_lone_go
   simp only [gor] at h
   show (stepG p true { frame:=s.fr,callers:=[c0],status:=.running,dying:=none } w).bare=_
   rw [h];rfl
  simp only [runN,hst]
  cases n with
  | zero =>
   simp only [runN]
   intro q
   have:=Stepped.next.inj q
   simp [lone] at this
  | succ n =>
   obtain⟨o,w2,es,he⟩:=hc w1
   obtain⟨o,w2,he⟩:=step_ended he
   exact runN_ended he (by omega) _
theorem will_of_calls(hP:Pair p p G fb fb (fun _ _=>false) (fun _ _ _=>False)){f:FuncId}{args:Array Value}{w:World}(h0:Good p fb G ⟨Frame.enter p f args .normal,[],w⟩)(hR:∀ w',¬ R .outgrown w')(H:∀ t,Calls p f args (w.taped t) R):Will p R (Frame.enter p f args .normal) [] w:=by
 apply Classical.byContradiction
 intro hno
 obtain⟨W,hgood⟩:=way_ex hP h0 hno
 obtain⟨e,w',fr,r,hcome,_,hleave⟩:=H W.tape [c0]
 have hsteps:Steps p (lone (Frame.enter p f args .normal) [c0] (w.taped W.tape)) (lone fr [c0] w'):=by
  cases e with
  | returned v=>exact hcome
  | panicked chain=>exact hcome
  | outgrown=>exact absurd r (hR _)
 have hmode:fr.mode≠.run:=by
  cases e with
  | returned v=>rw [hleave.1];intro q;cases q
  | panicked chain=>rw [hleave.1];intro q;cases q
  | outgrown=>exact absurd r (hR _)
 obtain⟨N,hN⟩:=hsteps
 cases hs:W.seq N with
 | some s =>
  have:=W.runs hs
  rw [show ([]:List Frame)++[c0]=[c0] from rfl,hN] at this
  have e1:=Stepped.next.inj this
  simp only [lone,Machine.mk.injEq] at e1
  obtain⟨e2,e3,_⟩:=e1
  have e4:fr=s.fr∧[c0]=s.cs++[c0]:=by simpa using e3
  have e5:s.cs=[]:=by
   have:=congrArg List.length e4.2
   simp at this
   exact this
  have hb:=W.bad N s hs
  rw [e5,← e4.1] at hb
  rw [e2] at hleave r
  exact hb (.leaf W.tape hmode hleave r)
 | none =>
  obtain⟨k,s,hk,hk1,hlt⟩:∃ k s,W.seq k=some s∧W.seq (k+1)=none∧k<N:=by
   clear hN
   induction N with
   | zero=>rw [W.zero] at hs;cases hs
   | succ N ih =>
    cases hm:W.seq N with
    | some s=>exact⟨N,s,hm,hs,Nat.lt_succ_self _⟩
    | none =>
     obtain⟨k,s,h1,h2,h3⟩:=ih hm
     exact⟨k,s,h1,h2,by omega⟩
  have hrun:=W.runs hk
  obtain⟨d,rfl⟩:∃ d,N=k+d:=⟨N-k,by omega⟩
  have hd:1≤d:=by omega
  rw [runN_add] at hN
  rw [show ([]:List Frame)++[c0]=[c0] from rfl] at hrun
  rw [hrun] at hN
  rcases W.spec k s hk with ⟨_,h1,h2⟩ | ⟨_,hb,o,w1,es,hend⟩ | ⟨s1,es,h1,_⟩
  ·exact base_stops hP (hgood k s hk) h1 h2 _ d hd fr [] w' hN
  ·have hA:∀ b,Agree (W.tp k) W.tape s.w.drawn b:=fun b i q hi _=>(W.tape_at ⟨s,hk,hi,fun s2 h2=>by rw [hk1] at h2;cases h2⟩ q).symm
   rcases good_kind hP (hgood k s hk) hb W.tape with ⟨o,w1,es,h⟩ | ⟨fr1,cs1,w1,es,g1,g2,g3,g4⟩
   ·obtain⟨o,w1,he⟩:=step_ended (h true [c0])
    exact runN_ended he hd _ hN
   ·have:=g4 (W.tp k) (hA _) true []
    rw [show (s.w.taped W.tape).taped (W.tp k)=s.w.taped (W.tp k) from rfl,hend true []] at this
    cases this
  ·simp only at h1;rw [hk1] at h1;cases h1
end
end Go.Proofs.YtdoibgmmijhlfaaGreat.Sm
namespace Go.Proofs.YtdoibgmmijhlfaaGreat.Sm
open Go
set_option linter.unusedVariables false
section
variable {G G':Cx}{F:FuncId→Prop}
def Ren.dom(ρ:Ren G)(G':Cx):Ren G':=⟨fun b c=>b=c∧∃ d,ρ.rel b d,fun _ _ _ h k=>h.1.symm.trans k.1,fun _ _ _ h k=>h.1.trans k.1.symm,fun _ _ h k=>h.1 ▸ k⟩
theorem ARel.dom{ρ:Ren G}{a b:Addr}(h:ARel ρ a b):ARel (ρ.dom G') a a:=⟨⟨rfl,_,h.blk⟩,rfl,rfl⟩
theorem self_of{P:Value→Prop}{xs ys:Array Value}(h1:xs.size=ys.size)(h2:∀ (i:Nat) (x y:Value),xs[i]? = some x→ys[i]? = some y→P x):∀ (i:Nat) (x:Value),xs[i]? = some x→P x:=fun i x hx=>by
 obtain⟨hi,_⟩:=Array.getElem?_eq_some_iff.1 hx
 have hi':i<ys.size:=h1 ▸ hi
 exact h2 i x ys[i] hx (Array.getElem?_eq_getElem hi')
theorem self_row{ρ:Ren G}{xs:Array Value}(h:∀ (i:Nat) (x:Value),xs[i]? = some x→VRel ρ F x x):∀ (i:Nat) (x y:Value),xs[i]? = some x→xs[i]? = some y→VRel ρ F x y:=fun i x y hx hy=>by
 rw [hx] at hy;cases hy
 exact h i x hx
theorem VRel.dom(hG:∀ t,G.mark t=false→G'.mark t=false){ρ:Ren G}{x y:Value}(h:VRel ρ F x y):VRel (ρ.dom G') F x x:=by
 induction h with
 | bool b=>exact .bool b
 | int k n=>exact .int k n
 | string s=>exact .string s
 | ptr0=>exact .ptr0
 | ptr h=>exact .ptr h.dom
 | sl0 n c=>exact .sl0 n c
 | sl n c h=>exact .sl n c h.dom
 | slz b=>exact .slz _
 | bad h=>exact .bad rfl
 | nilFunc=>exact .nilFunc
 | func hf h1 _ h3 _ i2 i4=>exact .func hf rfl (self_row (self_of h1 i2)) rfl (self_row (self_of h3 i4))
 | iface t ht _ ih=>exact .iface t (hG t ht) ih
 | agg h1 _ ih=>exact .agg rfl (self_row (self_of h1 ih))
 | tuple h1 _ ih=>exact .tuple rfl (self_row (self_of h1 ih))
theorem RW.dom(hG:∀ t,G.mark t=false→G'.mark t=false){ρ:Ren G}{xs ys:Array Value}(h:RW ρ F xs ys):RW (ρ.dom G') F xs xs :=
 ⟨rfl,self_row (self_of (P:=fun x=>VRel (ρ.dom G') F x x) h.size fun i x y hx hy=>(h.at_ i x y hx hy).dom hG)⟩
theorem WRel.dom(hg:G'.glob=G.glob)(hG:∀ t,G.mark t=false→G'.mark t=false){ρ:Ren G}{w w':World}(h:WRel ρ F w w'):WRel (ρ.dom G') F w w:=by
 refine⟨?_,by rw [hg];exact h.base⟩
 rintro b c ⟨rfl,d,hd⟩
 obtain⟨o,o',h1,h2,hr⟩:=h.objs b d hd
 refine⟨o,o,h1,h1,?_⟩
 cases hr with
 | row hx=>exact .row (hx.imp id fun hx=>⟨hx.1.dom hG,fun i a b=>⟨a,b⟩⟩)
 | number hx=>exact .number hx.dom
end
theorem good_enter{p p':Program}{G G':Cx}{fb fb' sb:FuncId→Bool}(hP:Pair p p G' fb fb (fun _ _=>false) (fun _ _ _=>False))(hg:G'.glob=G.glob)(hG:∀ t,G.mark t=false→G'.mark t=false)
  {f:FuncId} (hf:fb f=true) {ρ:Ren G} {w w':World} {xs ys:Array Value} (hw:WRel ρ (inF fb) w w') (h:RW ρ (inF fb) xs ys):Good p fb G' ⟨Frame.enter p f xs .normal,[],w⟩ :=
 ⟨ρ.dom G',_,[],w,.base (enter_rel hP hf (h.dom hG)),hw.dom hg hG⟩
def iceO(hid:Bool):Obj→Obj
 | .cells xs e z=>if hid then .cells #[] e z else .cells xs e (0,max z.2 xs.size)
 | o=>o
def iceW(w:World)(hid:Nat→Bool):World:={ w with heap:=w.heap.mapIdx fun b o=>iceO (hid b) o }
section
variable {G:Cx}{F:FuncId→Prop}{ρ:Ren G}{w w' w'':World}{hid:Nat→Bool}
theorem ice_size:(iceW w hid).heap.size=w.heap.size:=by simp [iceW]
theorem ice_get(b:Nat):(iceW w hid).heap[b]? = (w.heap[b]?).map (iceO (hid b)):=by simp [iceW,Array.getElem?_mapIdx]
theorem ice_cell{a:Addr}(h:hid a.block=false):(iceW w hid).cell? a=w.cell? a:=by
 unfold World.cell?
 rw [ice_get,h]
 cases hb:w.heap[a.block]? with
 | none=>rfl
 | some o=>cases o <;> rfl
theorem ice_mayWrite{c o:Nat}:¬ MayWrite ρ (iceW w hid) c o:=by
 rintro⟨b,xs,e,z,_,h2,h3,h4⟩
 rw [ice_get] at h2
 obtain⟨x,hx,hy⟩:=Option.map_eq_some_iff.1 h2
 cases x with
 | cells ys e' z' =>
  simp only [iceO] at hy
  split at hy
  ·cases hy
   simp at h3
  ·cases hy
   simp only at h4
   omega
 | _=>cases hy
theorem WRel.ice(h:WRel ρ F w w')(h1:∀ b c,ρ.rel b c→hid b=false→w''.heap[c]? = w'.heap[c]?)
  (h2:∀ b c,ρ.rel b c→hid b=true→∃ xs e z ys z',w.heap[b]? = some (.cells xs e z)∧w''.heap[c]? = some (.cells ys e z')):WRel ρ F (iceW w hid) w'':=by
 refine⟨fun b c hbc=>?_,by rw [ice_size];exact h.base⟩
 cases hb:hid b with
 | true =>
  obtain⟨xs,e,z,ys,z',k1,k2⟩:=h2 b c hbc hb
  exact⟨.cells #[] e z,_,by rw [ice_get,k1,hb];rfl,k2,.row (.inl rfl)⟩
 | false =>
  obtain⟨o,o',k1,k2,hr⟩:=h.objs b c hbc
  rw [← h1 b c hbc hb] at k2
  cases hr with
  | @row xs ys e z z' hx =>
   refine⟨.cells xs e (0,max z.2 xs.size),_,by rw [ice_get,k1,hb];rfl,k2,.row (hx.imp id fun hx=>⟨hx.1,fun i a b=>⟨Nat.zero_le _,?_⟩⟩)⟩
   have:=hx.2 i a b
   simp only
   omega
  | number hx=>exact⟨_,_,by rw [ice_get,k1,hb];rfl,k2,.number hx⟩
end
end Go.Proofs.YtdoibgmmijhlfaaGreat.Sm
namespace Go.Proofs.YtdoibgmmijhlfaaGreat.Sm
open Go
set_option linter.unusedVariables false
section
variable {p:Program}{G:Cx}{fb:FuncId→Bool}{R:Ending→World→Prop}
theorem Will.taped{fr:Frame}{cs:List Frame}{w:World}(h:Will p R fr cs w)(t:TapeT):Will p R fr cs (w.taped t):=by
 cases h with
 | leaf s hm h r=>exact .leaf s hm h r
 | step n h k=>exact .step n h k
theorem will_lone{fr fr1:Frame}{cs cs1:List Frame}{w w1:World}{es:Array Event}(h:∀ m0 rest,stepG p m0 (gor fr (cs++rest)) w=.go (gor fr1 (cs1++rest)) w1 es):step p (lone fr (cs++[c0]) w)=.next (lone fr1 (cs1++[c0]) w1):=by
 apply step_lone_go
 have:=h true [c0]
 simp only [gor] at this
 rw [this]
 rfl
theorem lone_inj{fr fr1:Frame}{cs cs1:List Frame}{w w1:World}(h:lone fr (cs++[c0]) w=lone fr1 (cs1++[c0]) w1):fr=fr1∧cs=cs1∧w=w1:=by
 simp only [lone,Machine.mk.injEq] at h
 obtain⟨h1,h2,_⟩:=h
 have h3:fr=fr1∧cs++[c0]=cs1++[c0]:=by simpa using h2
 exact⟨h3.1,List.append_cancel_right h3.2,h1⟩
theorem will_next(hP:Pair p p G fb fb (fun _ _=>false) (fun _ _ _=>False)){s s1:LS}(hs:Good p fb G s)(hb:s.fr.mode=.run∨s.cs≠[]){t:TapeT}{es:Array Event}(h:∀ m0 rest,stepG p m0 (gor s.fr (s.cs++rest)) (s.w.taped t)=.go (gor s1.fr (s1.cs++rest)) s1.w es):Good p fb G s1∧s1.w.taped t=s1.w:=by
 have e:=h true []
 simp only [List.append_nil] at e
 refine⟨good_next hP hs hb e,?_⟩
 obtain⟨σ,fr',cs',w',hS,hw⟩:=hs
 obtain⟨w2,h1,h2⟩:=hw.taped t
 obtain⟨τ,fr1,cs1,fr1',cs1',u',fs,hg,_,hA,hB,hSh⟩:=sim_step hP hS hb not_atSp h1 h2 e
 have:=hA.lone.tape
 obtain⟨fr,cs,w1⟩:=s1
 simp only at this ⊢
 cases w1
 simp only [World.taped] at this ⊢
 subst this;rfl
theorem will_mode{fr:Frame}{cs:List Frame}{w:World}(hP:Pair p p G fb fb (fun _ _=>false) (fun _ _ _=>False))(hs:Good p fb G ⟨fr,cs,w⟩)(h:Will p R fr cs w)(hl:cs=[]→fr.mode≠.run→False):fr.mode=.run∨cs≠[]:=by
 by_cases hc:cs=[]
 ·by_cases hm:fr.mode=.run
  ·exact .inl hm
  ·exact(hl hc hm).elim
 ·exact .inr hc
theorem will_follow(hP:Pair p p G fb fb (fun _ _=>false) (fun _ _ _=>False)){t:TapeT}:∀ (n:Nat) {fr fr2:Frame} {cs cs2:List Frame} {w w2:World},Good p fb G ⟨fr,cs,w⟩→Will p R fr cs w→runN p n (lone fr (cs++[c0]) (w.taped t))=.next (lone fr2 (cs2++[c0]) w2) →
  Will p R fr2 cs2 w2∧Good p fb G ⟨fr2,cs2,w2⟩
 | 0,fr,fr2,cs,cs2,w,w2,hs,h,hr=>by
  obtain⟨rfl,rfl,rfl⟩:=lone_inj (Stepped.next.inj hr)
  refine⟨h.taped t,?_⟩
  obtain⟨σ,fr',cs',w',hS,hw⟩:=hs
  obtain⟨w3,h1,h2⟩:=hw.taped t
  exact⟨σ,fr',cs',w3,hS,h1⟩
 | n+1,fr,fr2,cs,cs2,w,w2,hs,h,hr=>by
  have hb:fr.mode=.run∨cs≠[]:=will_mode hP hs h fun hc hm=>by
   subst hc
   exact base_stops hP hs rfl hm _ (n+1) (by omega) _ _ _ hr
  cases h with
  | leaf t' hm h r=>exact absurd hr (base_stops hP hs rfl hm _ (n+1) (by omega) _ _ _)
  | step nx h k =>
   obtain⟨es,hes⟩:=h t
   obtain⟨hg,ht⟩:=will_next (s:=⟨fr,cs,w⟩) (s1:=⟨(nx t).1,(nx t).2.1,(nx t).2.2⟩) hP hs hb hes
   have e:=will_lone hes
   simp only [runN,e] at hr
   simp only at ht
   exact will_follow hP n hg (k t) (by rw [ht];exact hr)
def Nx(p:Program)(s' s:LS):Prop:=∃ (t:TapeT) (n:Nat),runN p (n+1) (lone s.fr (s.cs++[c0]) (s.w.taped t))=.next (lone s'.fr (s'.cs++[c0]) s'.w)
theorem will_acc(hP:Pair p p G fb fb (fun _ _=>false) (fun _ _ _=>False)){fr:Frame}{cs:List Frame}{w:World}(h:Will p R fr cs w):Good p fb G ⟨fr,cs,w⟩→Acc (Nx p) ⟨fr,cs,w⟩:=by
 induction h with
 | leaf t' hm h r =>
  intro hs
  refine⟨_,fun s'=>?_⟩
  rintro⟨t,n,hr⟩
  exact absurd hr (base_stops hP hs rfl hm _ (n+1) (by omega) _ _ _)
 | @step fr cs w nx h k ih =>
  intro hs
  refine⟨_,fun s'=>?_⟩
  rintro⟨t,n,hr⟩
  have hb:fr.mode=.run∨cs≠[]:=will_mode hP hs (Will.step nx h k) fun hc hm=>by
   subst hc
   exact base_stops hP hs rfl hm _ (n+1) (by omega) _ _ _ hr
  obtain⟨es,hes⟩:=h t
  obtain⟨hg,ht⟩:=will_next (s:=⟨fr,cs,w⟩) (s1:=⟨(nx t).1,(nx t).2.1,(nx t).2.2⟩) hP hs hb hes
  have e:=will_lone hes
  simp only [runN,e] at hr
  simp only at ht
  have hacc:=ih t hg
  cases n with
  | zero =>
   simp only [runN] at hr
   obtain⟨e1,e2,e3⟩:=lone_inj (Stepped.next.inj hr)
   obtain⟨fr',cs',w'⟩:=s'
   simp only at e1 e2 e3
   subst e1;subst e2;subst e3
   exact hacc
  | succ n=>exact hacc.inv ⟨t,n,by rw [ht];exact hr⟩
end
end Go.Proofs.YtdoibgmmijhlfaaGreat.Sm
namespace Go.Proofs.YtdoibgmmijhlfaaGreat.Sm
open Go
set_option linter.unusedVariables false
section
variable {p p':Program}{G G0:Cx}{fb0 fb sb:FuncId→Bool}{dd:FuncId→Nat→Bool}{Sp:FuncId→Oper→Oper→Prop}{R:Ending→World→Prop}
def tapeFor(w w':World):TapeT:=fun i q=>w'.tape (w'.drawn+(i-w.drawn)) q
theorem tapeFor_al(w w':World):Aligned (w.taped (tapeFor w w')) w':=by
 intro i q
 show w'.tape (w'.drawn+(w.drawn+i-w.drawn)) q=_
 rw [Nat.add_sub_cancel_left]
theorem WRel.onTape{ρ:Ren G}{F:FuncId→Prop}{w w':World}(h:WRel ρ F w w')(t:TapeT):WRel ρ F (w.taped t) w':=⟨h.objs,h.base⟩
structure Co(p p':Program)(G G0:Cx)(fb0 fb sb:FuncId→Bool)(dd:FuncId→Nat→Bool)(Sp:FuncId→Oper→Oper→Prop)(R:Ending→World→Prop)(ρ:Ren G)(s:LS)(fr':Frame)(cs':List Frame)(w':World):Prop where
 st:StRel p p' fb sb dd Sp ρ (s.fr :: s.cs) (fr' :: cs')
 wr:WRel ρ (inF fb) s.w w'
 good:Good p fb0 G0 s
 will:Will p R s.fr s.cs s.w
theorem co_step(hL:Pair p p G0 fb0 fb0 (fun _ _=>false) (fun _ _ _=>False))(hP:Pair p p' G fb sb dd Sp){ρ:Ren G}{s:LS}{fr':Frame}{cs':List Frame}{w':World}(h:Co p p' G G0 fb0 fb sb dd Sp R ρ s fr' cs' w')(hb:s.fr.mode=.run∨s.cs≠[])(hsp:¬ AtSp Sp s.fr fr') :
  ∃ (σ:Ren G) (s1:LS) (fr1':Frame) (cs1':List Frame) (u':World) (fs:Array Event),(∀ main rest,stepG p' main (gor fr' (cs'++rest)) w'=.go (gor fr1' (cs1'++rest)) u' fs) ∧
   After (inF fb) ρ σ (s.w.taped (tapeFor s.w w')) w' s1.w u' fs∧Behind p p' fb sb dd Sp σ s1.fr s1.cs fr1' cs1'∧Good p fb0 G0 s1∧Will p R s1.fr s1.cs s1.w∧Nx p s1 s∧Shape s.fr s.cs s1.fr s1.cs fr' cs' fr1' cs1'∧∃ es,∀ m0 rest,stepG p m0 (gor s.fr (s.cs++rest)) (s.w.taped (tapeFor s.w w'))=.go (gor s1.fr (s1.cs++rest)) s1.w es:=by
 obtain⟨fr,cs,w⟩:=s
 have hw:=h.will
 cases hw with
 | leaf t hm _ _ =>
  rcases hb with hb | hb
  ·exact absurd hb hm
  ·exact absurd rfl hb
 | step nx hn k =>
  obtain⟨es,hes⟩:=hn (tapeFor w w')
  obtain⟨hg,ht⟩:=will_next (s:=⟨fr,cs,w⟩) (s1:=⟨(nx (tapeFor w w')).1,(nx (tapeFor w w')).2.1,(nx (tapeFor w w')).2.2⟩) hL h.good hb hes
  have e:=hes true []
  simp only [List.append_nil] at e
  obtain⟨σ,fr1,cs1,fr1',cs1',u',fs,hg1,h1,hA,hB,hSh⟩:=sim_step hP h.st hb hsp (h.wr.onTape _) (tapeFor_al w w') e
  obtain⟨e1,e2⟩:=gor_inj hg1.symm
  subst e1;subst e2
  exact⟨σ,⟨_,_,_⟩,fr1',cs1',u',fs,h1,hA,hB,hg,k _,⟨tapeFor w w',0,by simp only [runN];rw [will_lone hes]⟩,hSh,es,hes⟩
theorem Co.next{ρ σ:Ren G}{s s1:LS}{fr1':Frame}{cs1':List Frame}{w' u':World}{fs:Array Event}(hA:After (inF fb) ρ σ (s.w.taped (tapeFor s.w w')) w' s1.w u' fs)(hS:StRel p p' fb sb dd Sp σ (s1.fr :: s1.cs) (fr1' :: cs1'))(hg:Good p fb0 G0 s1)(hw:Will p R s1.fr s1.cs s1.w) :
  Co p p' G G0 fb0 fb sb dd Sp R σ s1 fr1' cs1' u':=⟨hS,hA.wrel,hg,hw⟩
theorem WRel.others{ρ:Ren G}{F:FuncId→Prop}{w w' w'':World}(h:WRel ρ F w w')(k:∀ b c,ρ.rel b c→(∃ xs e z ys z',w.heap[b]? = some (.cells xs e z)∧xs.size=0∧w''.heap[c]? = some (.cells ys e z'))∨w''.heap[c]? = w'.heap[c]?):WRel ρ F w w'':=by
 refine⟨fun b c hbc=>?_,h.base⟩
 rcases k b c hbc with ⟨xs,e,z,ys,z',h1,h2,h3⟩ | k
 ·exact⟨_,_,h1,h3,.row (.inl h2)⟩
 ·rw [k];exact h.objs b c hbc
theorem Co.others{ρ:Ren G}{s:LS}{fr':Frame}{cs':List Frame}{w' w'':World}(h:Co p p' G G0 fb0 fb sb dd Sp R ρ s fr' cs' w')(k:∀ b c,ρ.rel b c→(∃ xs e z ys z',s.w.heap[b]? = some (.cells xs e z)∧xs.size=0∧w''.heap[c]? = some (.cells ys e z'))∨w''.heap[c]? = w'.heap[c]?) :
  Co p p' G G0 fb0 fb sb dd Sp R ρ s fr' cs' w'':=⟨h.st,h.wr.others k,h.good,h.will⟩
end
end Go.Proofs.YtdoibgmmijhlfaaGreat.Sm
namespace Go.Proofs.YtdoibgmmijhlfaaGreat.Sm
open Go
set_option linter.unusedVariables false
section
variable {p:Program}{G:Cx}{fb:FuncId→Bool}{R:Ending→World→Prop}
abbrev PairL(p:Program)(G:Cx)(fb:FuncId→Bool):Prop:=Pair p p G fb fb (fun _ _=>false) (fun _ _ _=>False)
structure LW(p:Program)(G:Cx)(fb:FuncId→Bool)(R:Ending→World→Prop)(s:LS):Prop where
 good:Good p fb G s
 will:Will p R s.fr s.cs s.w
abbrev Nx'(p:Program)(s' s:LS):Prop:=Relation.TransGen (Nx p) s' s
theorem LW.go(hP:PairL p G fb){s s1:LS}(h:LW p G fb R s){t:TapeT}{es:Array Event}(e:∀ m0 rest,stepG p m0 (gor s.fr (s.cs++rest)) (s.w.taped t)=.go (gor s1.fr (s1.cs++rest)) s1.w es):LW p G fb R s1∧Nx p s1 s:=by
 have hr:runN p 1 (lone s.fr (s.cs++[c0]) (s.w.taped t))=.next (lone s1.fr (s1.cs++[c0]) s1.w):=by simp only [runN,will_lone e]
 obtain⟨h1,h2⟩:=will_follow hP 1 h.good h.will hr
 exact⟨⟨h2,h1⟩,t,0,hr⟩
theorem LW.run(hP:PairL p G fb){s s1:LS}(h:LW p G fb R s){t:TapeT}{n:Nat}(e:runN p (n+1) (lone s.fr (s.cs++[c0]) (s.w.taped t))=.next (lone s1.fr (s1.cs++[c0]) s1.w)):LW p G fb R s1∧Nx p s1 s:=by
 obtain⟨h1,h2⟩:=will_follow hP (n+1) h.good h.will e
 exact⟨⟨h2,h1⟩,t,n,e⟩
theorem raise_run{c:Frame}(h:c.mode=.run)(ch:List PanicEntry):(c.raise ch).mode=.panicking ch:=by
 unfold Frame.raise
 rw [h]
theorem LW.panics(hP:PairL p G fb)(hR:∀ w,¬ R .outgrown w):∀ (cs:List Frame) (fr:Frame) (w:World) (ch:List PanicEntry),LW p G fb R ⟨fr,cs,w⟩→fr.mode=.panicking ch→∃ t,R (.panicked ch) (w.taped t)
 | [],fr,w,ch,h,hm=>by
  have hw:=h.will
  cases hw with
  | @leaf _ _ t e h1 h2 r =>
   cases e with
   | returned v=>rw [h2.1] at hm;cases hm
   | panicked c =>
    have:=h2.1
    rw [hm] at this
    cases this
    exact⟨t,r⟩
   | outgrown=>exact absurd r (hR _)
  | step n hn k =>
   obtain⟨es,hes⟩:=hn w.tape
   have hr:runN p 1 (lone fr ([]++[c0]) (w.taped w.tape))=.next (lone (n w.tape).1 ((n w.tape).2.1++[c0]) (n w.tape).2.2):=by simp only [runN,will_lone hes]
   exact absurd hr (base_stops hP h.good rfl (by rw [hm];intro q;cases q) _ 1 (Nat.le_refl _) _ _ _)
 | c :: cs,fr,w,ch,h,hm=>by
  obtain⟨σ,fr',cs',w',hS,hW⟩:=h.good
  have hS2:=hS
  cases hS with
  | @cons _ _ _ c' _ cs2 hF hs hc kS =>
   cases hF with
   | @mk f ts ts' ht k k' hk m m' hmm =>
    replace hm:m=_:=hm
    subst hm
    obtain⟨fn,fn',b,b',g1,_⟩:=hP.same f hs
    obtain⟨h1,_⟩:=h.go hP (s1:=⟨c.raise ch,cs,w.taped w.tape⟩) (t:=w.tape) (es:=#[]) fun m0 rest=>c_unwind p m0 f ts k (cs++rest) _ c fn g1 ch
    obtain⟨t,r⟩:=LW.panics hP hR cs _ _ ch h1 (raise_run hc ch)
    exact⟨t,r⟩
end
end Go.Proofs.YtdoibgmmijhlfaaGreat.Sm
namespace Go.Proofs.YtdoibgmmijhlfaaGreat.Sm
open Go Go.Conc Go.ConcN
set_option linter.unusedVariables false
def Kn(K:Nat→Touch→Prop)(t:Trace):Prop:=∀ k a i,touchAt t i=some a→K k a→Knows t k i
def OkBy(K:Nat→Touch→Prop)(g:Nat)(op:MemOp):Prop:=op.g=g∧∀ b,op.act.touch? = some b→(∀ said a,a.conflicts said b→K g a)∧∀ k,k≠g→¬ K k b
section
variable {K K':Nat→Touch→Prop}{t u:Trace}{g:Nat}
theorem Kn.app(h:Kn K t)(hu:∀ op∈u,OkBy K g op):Kn K (t++u):=by
 intro k a i ha hk
 obtain⟨x,hx,hxa⟩:=touch_of ha
 rcases getElem?_append_cases hx with ⟨hi,hx'⟩ | ⟨_,hxu⟩
 ·exact(h k a i (by rw [touchAt_of hx'];exact hxa) hk).app u
 ·obtain⟨hg,hb⟩:=hu x hxu
  have hkg:k=g:=Classical.byContradiction fun hne=>(hb a hxa).2 k hne hk
  have:=knows_own hx
  rwa [hg,← hkg] at this
theorem Kn.noRace{said:Bool}(hn:¬ Race said t)(h:Kn K t)(hu:∀ op∈u,OkBy K g op):¬ Race said (t++u) :=
 noRace_append hn (fun op hop=>(hu op hop).1) fun i a ha op hop b hb hc=>h g a i ha (((hu op hop).2 b hb).1 said a hc)
theorem Kn.drop(h:Kn K t)(k:∀ g a,K' g a→K g a):Kn K' t:=fun g a i ha hk=>h g a i ha (k g a hk)
theorem Kn.fresh(h:Kn K t)(k:∀ g a,K' g a→K g a∨∀ i b,touchAt t i=some b→b.loc≠a.loc):Kn K' t:=fun g a i ha hk=>by
 rcases k g a hk with hk | hk
 ·exact h g a i ha hk
 ·exact absurd rfl (hk i a ha)
theorem Kn.fork(h:Kn K t){j:Nat}{x y:MemOp}(hx:x.g=0∧x.act=.go (j+1))(hy:y.g=j+1∧y.act=.start)(h0:Deaf t 0=0)(hj:Deaf t (j+1)=0)(k:∀ g a,K' g a→K g a∨(g=j+1∧K 0 a)):Kn K' (t++#[x,y]):=by
 intro g a i ha hk
 obtain⟨z,hz,hza⟩:=touch_of ha
 rcases getElem?_append_cases hz with ⟨hi,hz'⟩ | ⟨_,hzu⟩
 ·have ha':touchAt t i=some a:=by rw [touchAt_of hz'];exact hza
  rcases k g a hk with hk2 | ⟨rfl,hk2⟩
  ·exact(h g a i ha' hk2).app _
  ·exact fork_knows hx hy h0 hj (h 0 a i ha' hk2)
 ·simp only [List.mem_toArray,List.mem_cons,List.not_mem_nil,or_false] at hzu
  rcases hzu with rfl | rfl
  ·rw [hx.2] at hza;cases hza
  ·rw [hy.2] at hza;cases hza
theorem noRace_fork{said:Bool}(hn:¬ Race said t){j:Nat}{x y:MemOp}(hx:x.g=0∧x.act=.go (j+1))(hy:y.g=j+1∧y.act=.start):¬ Race said (t++#[x,y]):=by
 have e:t++#[x,y]=(t++#[x])++#[y]:=by apply Array.ext';simp
 rw [e]
 refine noRace_append (g:=j+1) (noRace_append (g:=0) hn (fun op hop=>by simp at hop;rw [hop];exact hx.1) (fun i a _ op hop b hb _=>?_)) (fun op hop=>by simp at hop;rw [hop];exact hy.1) (fun i a _ op hop b hb _=>?_)
 ·simp at hop;rw [hop,hx.2] at hb;cases hb
 ·simp at hop;rw [hop,hy.2] at hb;cases hb
theorem Kn.join{ad:Addr}(h:Kn K t){q r:Nat}{k:Nat}(hr:t.act? r=some (.mark (.releaseMerge ad)))(hrg:t.g? r=some k)(hrh:t.heard r)(hn:NoRelease ad t)(hrq:r<q)
  (hq:t.act? q=some (.mark (.acquire ad))) (hg:t.g? q=some 0) (hh:t.heard q) {i:Nat} (hi:t.g? i=some k) (hir:i≤r):Knows t 0 i:=by
 have edge:HappensBefore t r q:=.single (.inr ⟨.marked hrq (.inr hr) hq (fun k _ _=>hn k),hrh,hh⟩)
 have hz:∃ z,t[q]? = some z∧z.g=0:=by
  unfold Trace.g? at hg
  obtain⟨z,h1,h2⟩:=Option.map_eq_some_iff.1 hg
  exact⟨z,h1,h2⟩
 obtain⟨z,h1,h2⟩:=hz
 refine⟨q,z,h1,h2,.inr ?_⟩
 rcases Nat.lt_or_ge i r with hlt | hge
 ·exact .trans (.single (.inl ⟨hlt,k,hi,hrg⟩)) edge
 ·obtain rfl:i=r:=by omega
  exact edge
theorem handed_of(h:∀ i g,t.g? i=some g→g≠0→t.counts i→Knows t 0 i):t.HandedOver:=by
 intro i g hi hne hc
 obtain⟨q,z,h1,h2,h3⟩:=h i g hi hne hc
 have hq:t.g? q=some 0:=by simp [Trace.g?,h1,h2]
 rcases h3 with rfl | h3
 ·rw [hi] at hq;cases hq;exact absurd rfl hne
 ·exact⟨q,hq,h3⟩
end
structure RG where
 hd:Nat→Bool
 x:Nat
 out:Bool
 g0:Nat
 j:Nat
 cl:Nat→Nat
 ow:Nat→Nat
def RG.cur(γ:RG)(g:Nat):Prop:=γ.g0<g∧g≤γ.g0+γ.j
def RG.K(γ:RG)(g:Nat)(a:Touch):Prop :=
 match a.loc with
 | .cell ad=>(γ.hd ad.block=true∧(a.kind=.plain∨(a.kind=.said∧g=0))) ∨
   (γ.hd ad.block=false∧(g=0∨γ.cur g)∧((ad.block=γ.x∧((γ.out=true∧(γ.cl ad.off=0∨γ.cl ad.off=g))∨(γ.out=false∧a.kind=.plain))) ∨
    (ad.block≠γ.x∧((γ.ow ad.block=0∧a.write=true)∨(γ.ow ad.block≠0∧γ.ow ad.block=g)))))
 | _=>(g=0∨γ.cur g)∧a.write=true
def RG.may(γ:RG)(g:Nat)(b:Touch):Prop :=
 match b.loc with
 | .cell ad=>(γ.hd ad.block=true∧(b.kind=.atomic∨(b.kind=.said∧g=0))) ∨
   (γ.hd ad.block=false∧((ad.block=γ.x∧((γ.out=true∧γ.cl ad.off=g∧g≠0)∨(γ.out=false∧b.kind=.atomic))) ∨
    (ad.block≠γ.x∧((γ.ow ad.block=0∧b.write=false)∨(γ.ow ad.block=g∧g≠0)))))
 | _=>b.write=false
def SoloK(hd:Nat→Bool)(g:Nat)(a:Touch):Prop :=
 match a.loc with
 | .cell ad=>(hd ad.block=true∧(a.kind=.plain∨(a.kind=.said∧g=0)))∨(hd ad.block=false∧g=0)
 | _=>g=0
def SoloMay(hd:Nat→Bool)(b:Touch):Prop :=
 match b.loc with
 | .cell ad=>hd ad.block=true→b.kind=.atomic∨b.kind=.said
 | _=>True
theorem RG.ok{γ:RG}{g:Nat}(hg:g=0∨γ.cur g){op:MemOp}(h:op.g=g)(hb:∀ b,op.act.touch? = some b→γ.may g b):OkBy γ.K g op:=by
 refine⟨h,fun b hbt=>?_⟩
 have hm:=hb b hbt
 obtain⟨loc,wr,kd⟩:=b
 constructor
 ·rintro said ⟨al,aw,ak⟩ ⟨e,_,hw,hk⟩
  simp only at e hw hk
  subst e
  cases al with
  | cell ad =>
   simp only [RG.may,RG.K] at hm ⊢
   rcases hm with ⟨h1,h2⟩ | ⟨h1,h2⟩
   ·refine .inl ⟨h1,?_⟩
    rcases hk with hk | hk | ⟨_,hk,hk2⟩
    ·exact .inl hk
    ·rcases h2 with h2 | h2
     ·rw [h2] at hk;cases hk
     ·rw [h2.1] at hk;cases hk
    ·rcases h2 with h2 | h2
     ·rw [h2] at hk2;cases hk2
     ·exact .inr ⟨hk,h2.2⟩
   ·refine .inr ⟨h1,hg,?_⟩
    rcases h2 with ⟨h2,h3⟩ | ⟨h2,h3⟩
    ·refine .inl ⟨h2,?_⟩
     rcases h3 with ⟨h3,h4,_⟩ | ⟨h3,h4⟩
     ·exact .inl ⟨h3,.inr h4⟩
     ·refine .inr ⟨h3,?_⟩
      rcases hk with hk | hk | ⟨_,hk,hk2⟩
      ·exact hk
      ·rw [h4] at hk;cases hk
      ·rw [h4] at hk2;cases hk2
    ·refine .inr ⟨h2,?_⟩
     rcases h3 with ⟨h3,h4⟩ | ⟨h3,h4⟩
     ·refine .inl ⟨h3,?_⟩
      rcases hw with hw | hw
      ·exact hw
      ·rw [h4] at hw;cases hw
     ·exact .inr ⟨fun z=>h4 (by rw [← h3];exact z),h3⟩
  | _ =>
   simp only [RG.may,RG.K] at hm ⊢
   refine⟨hg,?_⟩
   rcases hw with hw | hw
   ·exact hw
   ·rw [hm] at hw;cases hw
 ·intro k hk hK
  cases loc with
  | cell ad =>
   simp only [RG.may,RG.K] at hm hK
   rcases hm with ⟨h1,h2⟩ | ⟨h1,h2⟩
   ·rcases hK with ⟨_,k2⟩ | ⟨k1,_⟩
    ·rcases h2 with h2 | ⟨h2,h3⟩
     ·rcases k2 with k2 | ⟨k2,_⟩ <;> rw [h2] at k2 <;> cases k2
     ·rcases k2 with k2 | ⟨_,k3⟩
      ·rw [h2] at k2;cases k2
      ·exact hk (k3.trans h3.symm)
    ·rw [h1] at k1;cases k1
   ·rcases hK with ⟨k1,_⟩ | ⟨_,_,k2⟩
    ·rw [h1] at k1;cases k1
    ·rcases h2 with ⟨h2,h3⟩ | ⟨h2,h3⟩
     ·rcases k2 with ⟨_,k3⟩ | ⟨k3,_⟩
      ·rcases h3 with ⟨h3,h4,h5⟩ | ⟨h3,h4⟩
       ·rcases k3 with ⟨_,k4⟩ | ⟨k4,_⟩
        ·rcases k4 with k4 | k4
         ·exact h5 (h4.symm.trans k4)
         ·exact hk (k4.symm.trans h4)
        ·rw [h3] at k4;cases k4
       ·rcases k3 with ⟨k4,_⟩ | ⟨_,k4⟩
        ·rw [h3] at k4;cases k4
        ·rw [h4] at k4;cases k4
      ·exact k3 h2
     ·rcases k2 with ⟨k3,_⟩ | ⟨_,k3⟩
      ·exact h2 k3
      ·rcases h3 with ⟨h3,h4⟩ | ⟨h3,h4⟩
       ·rcases k3 with ⟨_,k4⟩ | ⟨k4,_⟩
        ·rw [h4] at k4;cases k4
        ·exact k4 h3
       ·rcases k3 with ⟨k4,_⟩ | ⟨_,k4⟩
        ·exact h4 (h3.symm.trans k4)
        ·exact hk (k4.symm.trans h3)
  | _ =>
   simp only [RG.may,RG.K] at hm hK
   rw [hm] at hK
   cases hK.2
theorem solo_ok{hd:Nat→Bool}{op:MemOp}(h:op.g=0)(hb:∀ b,op.act.touch? = some b→SoloMay hd b):OkBy (SoloK hd) 0 op:=by
 refine⟨h,fun b hbt=>?_⟩
 have hm:=hb b hbt
 obtain⟨loc,wr,kd⟩:=b
 constructor
 ·rintro said ⟨al,aw,ak⟩ ⟨e,_,hw,hk⟩
  simp only at e hw hk
  subst e
  cases al with
  | cell ad =>
   simp only [SoloMay,SoloK] at hm ⊢
   cases hh:hd ad.block with
   | false=>exact .inr ⟨rfl,trivial⟩
   | true =>
    refine .inl ⟨rfl,?_⟩
    have:=hm hh
    rcases hk with hk | hk | ⟨_,hk,hk2⟩
    ·exact .inl hk
    ·rcases this with h2 | h2 <;> rw [h2] at hk <;> cases hk
    ·exact .inr ⟨hk,trivial⟩
  | _=>rfl
 ·intro k hk hK
  cases loc with
  | cell ad =>
   simp only [SoloMay,SoloK] at hm hK
   rcases hK with ⟨h1,h2⟩ | ⟨_,h2⟩
   ·have:=hm h1
    rcases h2 with h2 | ⟨_,h2⟩
    ·rcases this with h3 | h3 <;> rw [h3] at h2 <;> cases h2
    ·exact hk h2
   ·exact hk h2
  | _=>exact hk hK
structure TS(hd:Nat→Bool)(N H:Nat)(t:Trace):Prop where
 kn:Kn (SoloK hd) t
 nr:∀ said,¬ Race said t
 hand:∀ i g,t.g? i=some g→g≠0→t.counts i→Knows t 0 i
 norel:∀ i a,t.act? i≠some (.mark (.release a))
 gs:∀ (i:Nat) (op:MemOp),t[i]? = some op→op.g<N
 bd:∀ i a ad,touchAt t i=some a→a.loc=.cell ad→ad.block<H
structure TR(γ:RG)(H:Nat)(t:Trace):Prop where
 kn:Kn γ.K t
 nr:∀ said,¬ Race said t
 hand:∀ i g,t.g? i=some g→g≠0→g≤γ.g0→t.counts i→Knows t 0 i
 past:∀ i g a,t.g? i=some g→g≠0→g≤γ.g0→touchAt t i=some a→(∀ c,a.loc=.cell c→γ.hd c.block=false)→Knows t 0 i
 norel:∀ i a,t.act? i≠some (.mark (.release a))
 gs:∀ (i:Nat) (op:MemOp),t[i]? = some op→op.g≤γ.g0+γ.j
 bd:∀ i a ad,touchAt t i=some a→a.loc=.cell ad→ad.block<H
section
variable {t u:Trace}{H H' N:Nat}
theorem hand_app{Q:Nat→Prop}(h:∀ i g,t.g? i=some g→g≠0→Q g→t.counts i→Knows t 0 i)(hu:∀ op∈u,Q op.g→op.g=0∨op.act.touch? = none):∀ i g,(t++u).g? i=some g→g≠0→Q g→(t++u).counts i→Knows (t++u) 0 i:=by
 intro i g hg hne hq hc
 obtain⟨op,ho,hog⟩:=Option.map_eq_some_iff.1 hg
 rcases getElem?_append_cases ho with ⟨hlt,ho'⟩ | ⟨_,hou⟩
 ·exact(h i g (by rw [← g?_old (u:=u) hlt];exact hg) hne hq ((counts_old hlt).1 hc)).app u
 ·rcases hu op hou (by rw [hog];exact hq) with h0 | h0
  ·exact absurd (hog.symm.trans h0) hne
  ·obtain⟨x,hx,_⟩:=hc
   obtain⟨act,ha,hax⟩:=Option.bind_eq_some_iff.1 hx
   rw [act?_of ho,Option.some.injEq] at ha
   subst ha
   rw [h0] at hax;cases hax
theorem past_app{Q:Nat→Prop}{Z:Touch→Prop}(h:∀ i g a,t.g? i=some g→g≠0→Q g→touchAt t i=some a→Z a→Knows t 0 i)(hu:∀ op∈u,Q op.g→op.g=0∨op.act.touch? = none):∀ i g a,(t++u).g? i=some g→g≠0→Q g→touchAt (t++u) i=some a→Z a→Knows (t++u) 0 i:=by
 intro i g a hg hne hq ha hz
 obtain⟨op,ho,hog⟩:=Option.map_eq_some_iff.1 hg
 rcases getElem?_append_cases ho with ⟨hlt,ho'⟩ | ⟨_,hou⟩
 ·exact(h i g a (by rw [← g?_old (u:=u) hlt];exact hg) hne hq (by rw [← touchAt_old (u:=u) hlt];exact ha) hz).app u
 ·rcases hu op hou (by rw [hog];exact hq) with h0 | h0
  ·exact absurd (hog.symm.trans h0) hne
  ·rw [touchAt_of ho,h0] at ha;cases ha
theorem norel_app(h:∀ i a,t.act? i≠some (.mark (.release a)))(hu:∀ op∈u,∀ a,op.act≠.mark (.release a)):∀ i a,(t++u).act? i≠some (.mark (.release a)):=fun i a=>NoRelease.app (fun i=>h i a) (fun op hop=>hu op hop a) i
theorem gs_app{M M':Nat}(h:∀ (i:Nat) (op:MemOp),t[i]? = some op→op.g≤M)(hM:M≤M')(hu:∀ op∈u,op.g≤M'):∀ (i:Nat) (op:MemOp),(t++u)[i]? = some op→op.g≤M':=fun i op ho=>by
 rcases getElem?_append_cases ho with ⟨_,ho'⟩ | ⟨_,hou⟩
 ·exact Nat.le_trans (h i op ho') hM
 ·exact hu op hou
theorem bd_app(h:∀ i a ad,touchAt t i=some a→a.loc=.cell ad→ad.block<H)(hH:H≤H')(hu:∀ op∈u,∀ b ad,op.act.touch? = some b→b.loc=.cell ad→ad.block<H'):∀ i a ad,touchAt (t++u) i=some a→a.loc=.cell ad→ad.block<H':=by
 intro i a ad ha hl
 obtain⟨x,hx,hxa⟩:=touch_of ha
 rcases getElem?_append_cases hx with ⟨hi,hx'⟩ | ⟨_,hxu⟩
 ·exact Nat.lt_of_lt_of_le (h i a ad (by rw [touchAt_of hx'];exact hxa) hl) hH
 ·exact hu x hxu a ad hxa hl
theorem TS.app{hd:Nat→Bool}(h:TS hd N H t)(hN:0<N)(hH:H≤H')(hg:∀ op∈u,op.g=0)(hm:∀ op∈u,∀ b,op.act.touch? = some b→SoloMay hd b)(hr:∀ op∈u,∀ a,op.act≠.mark (.release a))
  (hb:∀ op∈u,∀ b ad,op.act.touch? = some b→b.loc=.cell ad→ad.block<H'):TS hd N H' (t++u):=by
 have ok:∀ op∈u,OkBy (SoloK hd) 0 op:=fun op hop=>solo_ok (hg op hop) (hm op hop)
 refine⟨h.kn.app ok,fun said=>h.kn.noRace (h.nr said) ok,fun i g a b c=>hand_app (Q:=fun _=>True) (fun i g a b _ c=>h.hand i g a b c) (fun op hop _=>.inl (hg op hop)) i g a b trivial c,norel_app h.norel hr,fun i op ho=>?_,bd_app h.bd hH hb⟩
 rcases getElem?_append_cases ho with ⟨_,ho'⟩ | ⟨_,hou⟩
 ·exact h.gs i op ho'
 ·rw [hg op hou];exact hN
theorem TS.mute{hd:Nat→Bool}(h:TS hd N H t){g:Nat}(hgN:g<N)(hg:∀ op∈u,op.g=g)(hm:∀ op∈u,op.act.touch? = none)(hr:∀ op∈u,∀ a,op.act≠.mark (.release a)):TS hd N H (t++u):=by
 have ok:∀ op∈u,OkBy (SoloK hd) g op:=fun op hop=>⟨hg op hop,fun b hb=>by rw [hm op hop] at hb;cases hb⟩
 refine⟨h.kn.app ok,fun said=>h.kn.noRace (h.nr said) ok,fun i g a b c=>hand_app (Q:=fun _=>True) (fun i g a b _ c=>h.hand i g a b c) (fun op hop _=>.inr (hm op hop)) i g a b trivial c,norel_app h.norel hr,fun i op ho=>?_,bd_app h.bd (Nat.le_refl _) fun op hop b ad hb=>by rw [hm op hop] at hb;cases hb⟩
 rcases getElem?_append_cases ho with ⟨_,ho'⟩ | ⟨_,hou⟩
 ·exact h.gs i op ho'
 ·rw [hg op hou];exact hgN
theorem TS.hide{hd hd':Nat→Bool}(h:TS hd N H t)(k:∀ b,hd' b=hd b∨H≤b):TS hd' N H t:=by
 refine⟨h.kn.fresh fun g a ha=>?_,h.nr,h.hand,h.norel,h.gs,h.bd⟩
 obtain⟨loc,wr,kd⟩:=a
 cases loc with
 | cell ad =>
  rcases k ad.block with k | k
  ·left
   simp only [SoloK] at ha ⊢
   rwa [k] at ha
  ·right
   intro i b hb e
   have:=h.bd i b ad hb e
   omega
 | _=>exact .inl ha
theorem TS.begin{γ:RG}(h:TS γ.hd N H t)(hN:N=γ.g0+1)(hj:γ.j=0):TR γ H t:=by
 refine⟨h.kn.drop fun g a ha=>?_,h.nr,fun i g a b _ c=>h.hand i g a b c,fun i g a _ _ _ ha hn=>h.kn 0 a i ha ?_,h.norel,fun i op ho=>by have:=h.gs i op ho;omega,h.bd⟩
 rotate_left
 ·obtain⟨loc,wr,kd⟩:=a
  cases loc with
  | cell ad=>exact .inr ⟨hn ad rfl,rfl⟩
  | _=>rfl
 have hcur:∀ g,¬ γ.cur g:=fun g hg=>by have:=hg.1;have:=hg.2;omega
 obtain⟨loc,wr,kd⟩:=a
 cases loc with
 | cell ad =>
  simp only [RG.K,SoloK] at ha ⊢
  rcases ha with ha | ⟨h1,h2,_⟩
  ·exact .inl ha
  ·exact .inr ⟨h1,h2.resolve_right (hcur g)⟩
 | _=>exact ha.1.resolve_right (hcur g)
theorem TR.app{γ:RG}(h:TR γ H t){g:Nat}(hcur:g=0∨γ.cur g)(hH:H≤H')(hg:∀ op∈u,op.g=g)(hm:∀ op∈u,∀ b,op.act.touch? = some b→γ.may g b)(hr:∀ op∈u,∀ a,op.act≠.mark (.release a))
  (hb:∀ op∈u,∀ b ad,op.act.touch? = some b→b.loc=.cell ad→ad.block<H'):TR γ H' (t++u):=by
 have ok:∀ op∈u,OkBy γ.K g op:=fun op hop=>RG.ok hcur (hg op hop) (hm op hop)
 have z0:∀ op∈u,op.g≤γ.g0→op.g=0:=fun op hop hq=>by
  rw [hg op hop] at hq ⊢
  rcases hcur with h0 | h0
  ·exact h0
  ·have:=h0.1;omega
 refine⟨h.kn.app ok,fun said=>h.kn.noRace (h.nr said) ok,hand_app h.hand (fun op hop hq=>.inl (z0 op hop hq)),past_app h.past (fun op hop hq=>.inl (z0 op hop hq)),norel_app h.norel hr,gs_app h.gs (Nat.le_refl _) fun op hop=>?_,bd_app h.bd hH hb⟩
 ·rw [hg op hop]
  rcases hcur with h0 | h0
  ·omega
  ·exact h0.2
theorem TR.mute{γ:RG}(h:TR γ H t){g:Nat}(hgN:g≤γ.g0+γ.j)(hg:∀ op∈u,op.g=g)(hm:∀ op∈u,op.act.touch? = none)(hr:∀ op∈u,∀ a,op.act≠.mark (.release a)):TR γ H (t++u):=by
 have ok:∀ op∈u,OkBy γ.K g op:=fun op hop=>⟨hg op hop,fun b hb=>by rw [hm op hop] at hb;cases hb⟩
 exact⟨h.kn.app ok,fun said=>h.kn.noRace (h.nr said) ok,hand_app h.hand (fun op hop hq=>.inr (hm op hop)),past_app h.past (fun op hop hq=>.inr (hm op hop)),norel_app h.norel hr,gs_app h.gs (Nat.le_refl _) fun op hop=>by rw [hg op hop];exact hgN,bd_app h.bd (Nat.le_refl _) fun op hop b ad hb=>by rw [hm op hop] at hb;cases hb⟩
theorem TR.grow{γ:RG}(h:TR γ H t)(hH:H≤H'):TR γ H' t:=⟨h.kn,h.nr,h.hand,h.past,h.norel,h.gs,fun i a ad x y=>Nat.lt_of_lt_of_le (h.bd i a ad x y) hH⟩
theorem TR.claim{γ:RG}(h:TR γ H t){g o:Nat}(ho:γ.cl o=0):TR { γ with cl:=fun i=>if i=o then g else γ.cl i } H t:=by
 refine⟨h.kn.drop fun k a ha=>?_,h.nr,h.hand,h.past,h.norel,h.gs,h.bd⟩
 obtain⟨loc,wr,kd⟩:=a
 cases loc with
 | cell ad =>
  simp only [RG.K] at ha ⊢
  refine ha.imp id fun ⟨h1,h2,h3⟩=>⟨h1,h2,h3.imp (fun ⟨h4,h5⟩=>⟨h4,h5.imp (fun ⟨h6,h7⟩=>⟨h6,?_⟩) id⟩) id⟩
  by_cases e:ad.off=o
  ·rw [e];exact .inl ho
  ·simpa [e] using h7
 | _=>exact ha
theorem TR.own{γ:RG}(h:TR γ H t){ow':Nat→Nat}(k:∀ b,ow' b=γ.ow b∨H≤b):TR { γ with ow:=ow' } H t:=by
 refine⟨h.kn.fresh fun g a ha=>?_,h.nr,h.hand,h.past,h.norel,h.gs,h.bd⟩
 obtain⟨loc,wr,kd⟩:=a
 cases loc with
 | cell ad =>
  rcases k ad.block with k | k
  ·left
   simp only [RG.K] at ha ⊢
   rwa [k] at ha
  ·right
   intro i b hb e
   have:=h.bd i b ad hb e
   omega
 | _=>exact .inl ha
theorem TR.fork{γ:RG}(h:TR γ H t){x y:MemOp}(hx:x.g=0∧x.act=.go (γ.g0+γ.j+1))(hy:y.g=γ.g0+γ.j+1∧y.act=.start)(h0:Deaf t 0=0)(hc:∀ o,γ.cl o≤γ.g0+γ.j)(ho:∀ b,γ.ow b≤γ.g0+γ.j):TR { γ with j:=γ.j+1 } H (t++#[x,y]):=by
 have hj:Deaf t (γ.g0+γ.j+1)=0:=Deaf_absent fun i op hi e=>by have:=h.gs i op hi;omega
 have hxy:∀ op∈(#[x,y]:Trace),op.act.touch? = none∧(∀ a,op.act≠.mark (.release a)):=by
  intro op hop
  simp only [List.mem_toArray,List.mem_cons,List.not_mem_nil,or_false] at hop
  rcases hop with rfl | rfl
  ·rw [hx.2];exact⟨rfl,fun a e=>by cases e⟩
  ·rw [hy.2];exact⟨rfl,fun a e=>by cases e⟩
 refine⟨h.kn.fork hx hy h0 hj fun g a ha=>?_,fun said=>noRace_fork (h.nr said) hx hy,hand_app h.hand (fun op hop _=>.inr (hxy op hop).1),past_app h.past (fun op hop _=>.inr (hxy op hop).1),norel_app h.norel fun op hop=>(hxy op hop).2,gs_app h.gs (by simp only;omega) fun op hop=>?_,bd_app h.bd (Nat.le_refl _) fun op hop b ad hb=>by rw [(hxy op hop).1] at hb;cases hb⟩
 ·by_cases e:g=γ.g0+γ.j+1
  ·right
   refine⟨e,?_⟩
   obtain⟨loc,wr,kd⟩:=a
   cases loc with
   | cell ad =>
    simp only [RG.K] at ha ⊢
    rcases ha with ⟨h1,h2⟩ | ⟨h1,h2,h3⟩
    ·exact .inl ⟨h1,h2.imp id fun h3=>by omega⟩
    ·refine .inr ⟨h1,.inl trivial,h3.imp (fun ⟨h4,h5⟩=>⟨h4,h5.imp (fun ⟨h6,h7⟩=>⟨h6,.inl ?_⟩) id⟩) fun ⟨h4,h5⟩=>⟨h4,h5.imp id fun ⟨h6,h7⟩=>?_⟩⟩
     ·rcases h7 with h7 | h7
      ·exact h7
      ·have:=hc ad.off;omega
     ·have:=ho ad.block;omega
   | _ =>
    simp only [RG.K] at ha ⊢
    exact⟨.inl trivial,ha.2⟩
  ·left
   have hcur:∀ {g},g≠γ.g0+γ.j+1→({ γ with j:=γ.j+1 }:RG).cur g→γ.cur g:=fun hne hg=>⟨hg.1,by have:=hg.2;simp only at this;omega⟩
   obtain⟨loc,wr,kd⟩:=a
   cases loc with
   | cell ad =>
    simp only [RG.K] at ha ⊢
    exact ha.imp id fun ⟨h1,h2,h3⟩=>⟨h1,h2.imp id (hcur e),h3⟩
   | _=>exact⟨ha.1.imp id (hcur e),ha.2⟩
 ·simp only [List.mem_toArray,List.mem_cons,List.not_mem_nil,or_false] at hop
  simp only
  rcases hop with rfl | rfl
  ·rw [hx.1];omega
  ·rw [hy.1];omega
structure Rel(hd:Nat→Bool)(ad:Addr)(t:Trace)(k r:Nat):Prop where
 by_:RelBy ad t k r
 after:∀ i,r<i→t.g? i=some k→∀ a,touchAt t i=some a→∃ c,a.loc=.cell c∧hd c.block=true
theorem Rel.app{hd:Nat→Bool}{ad:Addr}{k r:Nat}(h:Rel hd ad t k r)(h1:RelBy ad (t++u) k r)(h2:∀ op∈u,op.g=k→∀ a,op.act.touch? = some a→∃ c,a.loc=.cell c∧hd c.block=true):Rel hd ad (t++u) k r:=by
 refine⟨h1,fun i hi hg a ha=>?_⟩
 obtain⟨x,hx,hxa⟩:=touch_of ha
 rcases getElem?_append_cases hx with ⟨hlt,hx'⟩ | ⟨_,hxu⟩
 ·exact h.after i hi (by rw [← g?_old (u:=u) hlt];exact hg) a (by rw [touchAt_of hx'];exact hxa)
 ·obtain⟨op,ho,hog⟩:=Option.map_eq_some_iff.1 hg
  rw [hx] at ho;cases ho
  exact h2 x hxu hog a hxa
theorem TR.join{γ:RG}(h:TR γ H t){ad:Addr}{y:MemOp}(hy:y.g=0∧y.act=.mark (.acquire ad))(h0:Deaf t 0=0)(hrel:∀ k,γ.cur k→∃ r,Rel γ.hd ad t k r):TS γ.hd (γ.g0+γ.j+1) H (t++#[y]):=by
 have hy0:∀ op∈(#[y]:Trace),op.g=0∧op.act.touch? = none∧(∀ a,op.act≠.mark (.release a)):=by
  intro op hop
  simp only [List.mem_toArray,List.mem_cons,List.not_mem_nil,or_false] at hop
  subst hop
  rw [hy.2];exact⟨hy.1,rfl,fun a e=>by cases e⟩
 have hyq:(t++#[y])[t.size]? = some y:=by rw [Array.getElem?_append_right (Nat.le_refl _)];simp
 have hq:(t++#[y]).act? t.size=some (.mark (.acquire ad)):=by rw [act?_of hyq,hy.2]
 have hgq:(t++#[y]).g? t.size=some 0:=by simp [Trace.g?,hy.1]
 have hhq:(t++#[y]).heard t.size:=⟨0,hgq,by rw [deaf_old (Nat.le_refl _)];exact h0⟩
 have nr':=norel_app h.norel fun op hop=>(hy0 op hop).2.2
 have upto:∀ k r i,γ.cur k→Rel γ.hd ad t k r→t.g? i=some k→i≤r→Knows (t++#[y]) 0 i:=fun k r i hk hr hi hir=>by
  have hrt:r<t.size:=lt_of_act? hr.by_.act
  have hit:i<t.size:=Nat.lt_of_le_of_lt hir hrt
  have kn':Kn γ.K (t++#[y]):=h.kn.app fun op hop=>⟨(hy0 op hop).1,fun b hb=>by rw [(hy0 op hop).2.1] at hb;cases hb⟩
  exact kn'.join (by rw [act?_old hrt];exact hr.by_.act) (by rw [g?_old hrt];exact hr.by_.g) ((heard_old hrt).2 hr.by_.heard) (fun i=>nr' i ad) hrt hq hgq hhq (by rw [g?_old hit];exact hi) hir
 have own0:∀ i,t.g? i=some 0→Knows (t++#[y]) 0 i:=fun i hi=>by
  obtain⟨op,ho,hog⟩:=Option.map_eq_some_iff.1 hi
  have:=knows_own ho
  rw [hog] at this
  exact this.app _
 have cur_of:∀ {i g},t.g? i=some g→g≠0→γ.g0<g→γ.cur g:=fun {i g} hg _ hlt=>by
  obtain⟨op,ho,hog⟩:=Option.map_eq_some_iff.1 hg
  exact⟨hlt,by have:=h.gs i op ho;omega⟩
 have old:∀ {i a},touchAt (t++#[y]) i=some a→touchAt t i=some a:=by
  intro i a ha
  obtain⟨z,hz,hza⟩:=touch_of ha
  rcases getElem?_append_cases hz with ⟨_,hz'⟩ | ⟨_,hzu⟩
  ·rw [touchAt_of hz'];exact hza
  ·rw [(hy0 z hzu).2.1] at hza;cases hza
 have hand':∀ i g,(t++#[y]).g? i=some g→g≠0→(t++#[y]).counts i→Knows (t++#[y]) 0 i:=by
  intro i g hg hne hc
  obtain⟨op,ho,hog⟩:=Option.map_eq_some_iff.1 hg
  rcases getElem?_append_cases ho with ⟨hlt,ho'⟩ | ⟨_,hou⟩
  ·have hg':t.g? i=some g:=by rw [← g?_old (u:=#[y]) hlt];exact hg
   have hc':=(counts_old hlt).1 hc
   rcases Nat.lt_or_ge γ.g0 g with hgt | hle
   ·have hcu:=cur_of hg' hne hgt
    obtain⟨r,hr⟩:=hrel g hcu
    rcases Nat.lt_or_ge r i with hri | hir
    ·exact absurd hc' (hr.by_.after i hri hg')
    ·exact upto g r i hcu hr hg' hir
   ·exact(h.hand i g hg' hne hle hc').app _
  ·exact absurd (hog.symm.trans (hy0 op hou).1) hne
 refine⟨?_,fun said=>?_,hand',nr',fun i op ho=>?_,bd_app h.bd (Nat.le_refl _) fun op hop b ad hb=>by rw [(hy0 op hop).2.1] at hb;cases hb⟩
 ·intro k a i ha hk
  have ha':=old ha
  obtain⟨x,hx,hxa⟩:=touch_of ha'
  have hlt:=lt_size_of_getElem? hx
  have hxg:t.g? i=some x.g:=by simp [Trace.g?,hx]
  have main:(∀ c,a.loc=.cell c→γ.hd c.block=false)→Knows (t++#[y]) 0 i:=by
   intro hn
   by_cases hz:x.g=0
   ·exact own0 i (by rw [hxg,hz])
   ·rcases Nat.lt_or_ge γ.g0 x.g with hgt | hle
    ·have hcu:=cur_of hxg hz hgt
     obtain⟨r,hr⟩:=hrel x.g hcu
     rcases Nat.lt_or_ge r i with hri | hir
     ·obtain⟨c,h1,h2⟩:=hr.after i hri hxg a ha'
      rw [hn c h1] at h2;cases h2
     ·exact upto x.g r i hcu hr hxg hir
    ·exact(h.past i x.g a hxg hz hle ha' hn).app _
  obtain⟨loc,wr,kd⟩:=a
  cases loc with
  | cell ad =>
   rcases hk with ⟨h1,h2⟩ | ⟨h1,rfl⟩
   ·exact(h.kn k ⟨.cell ad,wr,kd⟩ i ha' (.inl ⟨h1,h2⟩)).app _
   ·exact main fun c hc=>by cases hc;exact h1
  | _ =>
   simp only [SoloK] at hk
   subst hk
   exact main fun c hc=>by cases hc
 ·exact h.kn.noRace (h.nr said) (g:=0) fun op hop=>⟨(hy0 op hop).1,fun b hb=>by rw [(hy0 op hop).2.1] at hb;cases hb⟩
 ·rcases getElem?_append_cases ho with ⟨_,ho'⟩ | ⟨_,hou⟩
  ·have:=h.gs i op ho';omega
  ·rw [(hy0 op hou).1];omega
end
end Go.Proofs.YtdoibgmmijhlfaaGreat.Sm
namespace Go.Proofs.YtdoibgmmijhlfaaGreat.Sm
open Go Go.Conc Go.ConcN
set_option linter.unusedVariables false
section
variable {G:Cx}{ρ σ:Ren G}{F:FuncId→Prop}{w w' u u':World}{t:Trace}{hd:Nat→Bool}{N H H':Nat}{fn:FuncId}{pos:String}{es fs:Array Event}
theorem ev_touch{e:Event}(h:EvOk σ u e):(∀ a,MemAct.ofEvent e≠.mark (.release a))∧∀ b,(MemAct.ofEvent e).touch? = some b→b.kind=.plain∧((∃ c,b.loc=.obj c∧b.write=false)∨∃ c o,b.loc=.cell ⟨c,o,none⟩∧MayRead σ u c∧(b.write=true→MayWrite σ u c o)):=by
 rcases h with rfl | ⟨c,rfl,_⟩ | ⟨c,o,wr,rfl,h1,h2⟩
 ·exact⟨fun a e=>(by cases e),fun b hb=>by cases hb⟩
 ·refine⟨fun a e=>(by cases e),fun b hb=>?_⟩
  cases hb
  exact⟨rfl,.inl ⟨c,rfl,rfl⟩⟩
 ·cases wr
  ·refine⟨fun a e=>(by cases e),fun b hb=>?_⟩
   cases hb
   exact⟨rfl,.inr ⟨c,o,rfl,h1,fun e=>by cases e⟩⟩
  ·refine⟨fun a e=>(by cases e),fun b hb=>?_⟩
   cases hb
   exact⟨rfl,.inr ⟨c,o,rfl,h1,fun _=>h2 rfl⟩⟩
theorem mO{g:Nat}{op:MemOp}(h:op∈MemOp.ofEvents g fn pos es):∃ e∈es,op.g=g∧op.act=.ofEvent e:=by
 rw [ofEvents_eq] at h
 obtain⟨e,he,rfl⟩:=Array.mem_map.1 h
 exact⟨e,he,rfl,rfl⟩
theorem TS.step(h:TS hd N H t)(hN:0<N)(hH:H≤H')(hev:∀ e∈es,EvOk σ u e)(hσ:∀ b c,σ.rel b c→hd c=false∧c<H'):TS hd N H' (t++MemOp.ofEvents 0 fn pos es):=by
 refine h.app hN hH (fun op hop=>?_) (fun op hop b hb=>?_) (fun op hop=>?_) (fun op hop b ad hb hl=>?_)
 ·obtain⟨e,he,h1,h2⟩:=mO hop;exact h1
 ·obtain⟨e,he,h1,h2⟩:=mO hop
  rw [h2] at hb
  obtain⟨k1,⟨c,k2,_⟩ | ⟨c,o,k2,⟨b',_,_,_,hr,_⟩,_⟩⟩:=(ev_touch (hev e he)).2 b hb
  ·unfold SoloMay;rw [k2];trivial
  ·unfold SoloMay;rw [k2];intro hh;rw [(hσ _ _ hr).1] at hh;cases hh
 ·obtain⟨e,he,h1,h2⟩:=mO hop
  rw [h2];exact(ev_touch (hev e he)).1
 ·obtain⟨e,he,h1,h2⟩:=mO hop
  rw [h2] at hb
  obtain⟨k1,⟨c,k2,_⟩ | ⟨c,o,k2,⟨b',_,_,_,hr,_⟩,_⟩⟩:=(ev_touch (hev e he)).2 b hb
  ·rw [k2] at hl;cases hl
  ·rw [k2] at hl;cases hl;exact(hσ _ _ hr).2
structure Wv(γ:RG)(k:Nat)(ρ:Ren G)(w:World):Prop where
 rng:∀ b c,ρ.rel b c→γ.hd c=false∧(γ.ow c=0∨γ.ow c=k)
 xr:∀ b,ρ.rel b γ.x→∃ e z,w.heap[b]? = some (.cells #[] e z)
 mw:∀ c o,MayWrite ρ w c o→γ.ow c=k
theorem Wv.read{γ:RG}{k:Nat}(h:Wv γ k ρ w){c:Nat}(hc:MayRead ρ w c):c≠γ.x:=by
 rintro rfl
 obtain⟨b,xs,e,z,h1,h2,h3⟩:=hc
 obtain⟨e',z',h4⟩:=h.xr b h1
 rw [h2] at h4
 cases h4
 exact h3 rfl
theorem WRel.lt(h:WRel ρ F w w'){b c:Nat}(hr:ρ.rel b c):c<w'.heap.size:=by
 obtain⟨o,o',_,h2,_⟩:=h.objs b c hr
 exact(Array.getElem?_eq_some_iff.1 h2).1
theorem TR.step{γ:RG}{k:Nat}(h:TR γ H t)(hk:γ.cur k)(hH:H≤H')(hev:∀ e∈es,EvOk σ u e)(hσ:∀ b c,σ.rel b c→c<H')(hv:Wv γ k σ u):TR γ H' (t++MemOp.ofEvents k fn pos es):=by
 have k0:k≠0:=by have:=hk.1;omega
 refine h.app (.inr hk) hH (fun op hop=>?_) (fun op hop b hb=>?_) (fun op hop=>?_) (fun op hop b ad hb hl=>?_)
 ·obtain⟨e,he,h1,h2⟩:=mO hop;exact h1
 ·obtain⟨e,he,h1,h2⟩:=mO hop
  rw [h2] at hb
  obtain⟨k1,⟨c,k2,k3⟩ | ⟨c,o,k2,hr,hw⟩⟩:=(ev_touch (hev e he)).2 b hb
  ·unfold RG.may;rw [k2];exact k3
  ·unfold RG.may;rw [k2]
   simp only
   have hx:=hv.read hr
   obtain⟨b',_,_,_,hr',_⟩:=hr
   obtain⟨r1,r2⟩:=hv.rng _ _ hr'
   refine .inr ⟨r1,.inr ⟨hx,?_⟩⟩
   cases hbw:b.write with
   | false =>
    rcases r2 with r2 | r2
    ·exact .inl ⟨r2,rfl⟩
    ·exact .inr ⟨r2,k0⟩
   | true=>exact .inr ⟨hv.mw _ _ (hw hbw),k0⟩
 ·obtain⟨e,he,h1,h2⟩:=mO hop
  rw [h2];exact(ev_touch (hev e he)).1
 ·obtain⟨e,he,h1,h2⟩:=mO hop
  rw [h2] at hb
  obtain⟨k1,⟨c,k2,_⟩ | ⟨c,o,k2,⟨b',_,_,_,hr,_⟩,_⟩⟩:=(ev_touch (hev e he)).2 b hb
  ·rw [k2] at hl;cases hl
  ·rw [k2] at hl;cases hl;exact hσ _ _ hr
def RG.take(γ:RG)(H k:Nat):RG:={ γ with ow:=fun c=>if H≤c then k else γ.ow c }
theorem RG.take_old{γ:RG}{H k c:Nat}(h:c<H):(γ.take H k).ow c=γ.ow c:=if_neg (by omega)
theorem RG.take_new{γ:RG}{H k c:Nat}(h:H≤c):(γ.take H k).ow c=k:=if_pos h
theorem TR.take{γ:RG}(h:TR γ H t)(k:Nat):TR (γ.take H k) H t:=h.own fun b=>by
 by_cases hb:H≤b
 ·exact .inr hb
 ·exact .inl (if_neg hb)
theorem RowsOf(hW:WRel ρ F w w')(hA:After F ρ σ w w' u u' fs){b c o:Nat}(hr:ρ.rel b c)(hm:∃ xs e z,u.heap[b]? = some (.cells xs e z)∧o<xs.size∧¬ (z.1≤o∧o<z.2)):MayWrite ρ w c o:=by
 obtain⟨xs,e,z,h1,h2,h3⟩:=hm
 obtain⟨p,p',k1,k2,k3⟩:=hW.objs b c hr
 cases k3 with
 | row hx =>
  obtain⟨ys,g1,g2⟩:=hA.lone.row b _ _ _ k1
  rw [h1] at g1
  cases g1
  exact⟨b,_,_,_,hr,k1,by omega,h3⟩
 | number hx =>
  have:=hA.lone.num b _ _ k1
  rw [h1] at this;cases this
theorem Wv.own{γ:RG}{k:Nat}(hv:Wv γ k ρ w)(hW:WRel ρ F w w')(hA:After F ρ σ w w' u u' fs)(hx:γ.x<w'.heap.size)(hh:∀ c,γ.hd c=true→c<w'.heap.size):Wv (γ.take w'.heap.size k) k σ u:=by
 refine⟨fun b c hr=>?_,fun b hr=>?_,?_⟩
 ·rcases hA.new b c hr with h | ⟨_,h⟩
  ·have hlt:=hW.lt h
   rw [RG.take_old hlt]
   exact hv.rng b c h
  ·refine⟨?_,.inr (RG.take_new h)⟩
   show γ.hd c=false
   cases hc:γ.hd c with
   | false=>rfl
   | true=>have:=hh c hc;omega
 ·rcases hA.new b _ hr with h | ⟨_,h⟩
  ·obtain⟨e,z,h1⟩:=hv.xr b h
   obtain⟨ys,h2,h3⟩:=hA.lone.row b _ _ _ h1
   obtain rfl:ys=#[]:=by simpa using h3
   exact⟨e,z,h2⟩
  ·exact absurd hx (Nat.not_lt.2 h)
 ·rintro c o ⟨b,xs,e,z,hr,h1,h2,h3⟩
  rcases hA.new b c hr with h | ⟨_,h⟩
  ·rw [RG.take_old (hW.lt h)]
   exact hv.mw c o (RowsOf hW hA h ⟨xs,e,z,h1,h2,h3⟩)
  ·exact RG.take_new h
theorem Wv.only{γ:RG}{k:Nat}(hv:Wv γ k ρ w)(hA:After F ρ σ w w' u u' fs){c:Nat}(hc:c<w'.heap.size)(hk:γ.ow c≠k):u'.heap[c]? = w'.heap[c]?:=by
 rcases hA.only c hc with h | ⟨o,h⟩
 ·exact h
 ·exact absurd (hv.mw c o h) hk
end
end Go.Proofs.YtdoibgmmijhlfaaGreat.Sm
namespace Go.Proofs.YtdoibgmmijhlfaaGreat.Sm
open Go Go.Conc
set_option linter.unusedVariables false
def Low1{α:Type}(r:α→α→Prop)(l' l:List α):Prop:=∃ i x x',l[i]? = some x∧r x' x∧l'=l.set i x'
theorem low1_acc{α:Type}{r:α→α→Prop}(wf:WellFounded r):∀ l:List α,Acc (Low1 r) l
 | []=>⟨_,fun l' h=>by obtain⟨i,x,x',h1,_,_⟩:=h;simp at h1⟩
 | a :: l=>by
  have ha:=wf.apply a
  have hl:=low1_acc wf l
  induction ha generalizing l with
  | intro a _ iha =>
   induction hl with
   | intro l hl ihl =>
    refine⟨_,fun l' h=>?_⟩
    obtain⟨i,x,x',h1,h2,rfl⟩:=h
    cases i with
    | zero =>
     simp only [List.getElem?_cons_zero,Option.some.injEq] at h1
     subst h1
     exact iha x' h2 l ⟨_,hl⟩
    | succ i=>exact ihl _ ⟨i,x,x',by simpa using h1,h2,rfl⟩
theorem low1_wf{α:Type}{r:α→α→Prop}(wf:WellFounded r):WellFounded (Low1 r):=⟨low1_acc wf⟩
def AS(p:Program):Type:={ s:LS // Acc (Nx p) s }
def AS.lt(p:Program)(a b:AS p):Prop:=Nx' p a.1 b.1
theorem AS.wf(p:Program):WellFounded (AS.lt p):=⟨fun a=>by
 obtain⟨s,h⟩:=a
 have key:∀ s,Acc (Nx' p) s→∀ h,Acc (AS.lt p) ⟨s,h⟩:=fun s hs=>by
  induction hs with
  | intro s _ ih =>
   intro h
   exact⟨_,fun y hy=>ih y.1 hy y.2⟩
 exact key s h.transGen h⟩
def OptLt{α:Type}(r:α→α→Prop):Option α→Option α→Prop
 | some x,some y=>r x y
 | _,_=>False
theorem optLt_wf{α:Type}{r:α→α→Prop}(wf:WellFounded r):WellFounded (OptLt r):=⟨fun o=>by
 cases o with
 | none=>exact⟨_,fun y hy=>by cases y <;> exact hy.elim⟩
 | some x =>
  induction x using wf.induction with
  | _ x ih=>exact⟨_,fun y hy=>by
    cases y with
    | none=>exact hy.elim
    | some y=>exact ih y hy⟩⟩
abbrev Wm(p:Program):Type:=Nat×Option (AS p)×Nat
def Wm.lt(p:Program):Wm p→Wm p→Prop:=Prod.Lex (· < ·) (Prod.Lex (OptLt (AS.lt p)) (· < ·))
theorem Wm.wf(p:Program):WellFounded (Wm.lt p):=(Prod.lex ⟨_,Nat.lt_wfRel.wf⟩ (Prod.lex ⟨_,optLt_wf (AS.wf p)⟩ ⟨_,Nat.lt_wfRel.wf⟩)).wf
theorem Wm.lt1{p:Program}{a a':Nat}{x y}(h:a<a'):Wm.lt p (a,x) (a',y):=.left _ _ h
theorem Wm.lt2{p:Program}{a:Nat}{x y:AS p}{m n:Nat}(h:AS.lt p x y):Wm.lt p (a,some x,m) (a,some y,n):=.right _ (.left _ _ h)
theorem Wm.lt3{p:Program}{a:Nat}{x}{m n:Nat}(h:m<n):Wm.lt p (a,x,m) (a,x,n):=.right _ (.right _ h)
def Leads(P:Program)(m:Machine)(t:Trace)(Q:Machine→Trace→Prop):Prop:=∃ n m' t',runNT P n m t=(.next m',t')∧Q m' t'
section
variable {P:Program}{Q Q':Machine→Trace→Prop}
theorem Leads.here{m:Machine}{t:Trace}(h:Q m t):Leads P m t Q:=⟨0,m,t,rfl,h⟩
theorem Leads.then{m:Machine}{t:Trace}(h:Leads P m t Q)(k:∀ m t,Q m t→Leads P m t Q'):Leads P m t Q':=by
 obtain⟨n,m',t',h1,h2⟩:=h
 obtain⟨n2,m2,t2,h3,h4⟩:=k m' t' h2
 exact⟨n+n2,m2,t2,by rw [runNT_add,h1];exact h3,h4⟩
theorem leads_of_inv{α:Type}{r:α→α→Prop}(wf:WellFounded r)(Inv:α→Machine→Trace→Prop)
  (h:∀ μ m t,Inv μ m t→Q m t∨∃ m' ops μ',stepT P m=(.next m',ops)∧r μ' μ∧Inv μ' m' (t++ops)):∀ μ m t,Inv μ m t→Leads P m t Q:=by
 intro μ
 induction μ using wf.induction with
 | _ μ ih =>
  intro m t hI
  rcases h μ m t hI with hq | ⟨m',ops,μ',hs,hr,hI'⟩
  ·exact .here hq
  ·obtain⟨n,m2,t2,h1,h2⟩:=ih μ' hr m' (t++ops) hI'
   exact⟨n+1,m2,t2,by rw [runNT_succ_next hs];exact h1,h2⟩
def Ends(P:Program)(m:Machine)(t:Trace)(Q:Machine→Outcome→World→Trace→Prop):Prop:=∃ n last o w t',runNT P (n+1) m t=(.ended o w,t')∧runN P n m=.next last∧step P last=.ended o w∧Q last o w t'
theorem Ends.last{Q:Machine→Outcome→World→Trace→Prop}{m:Machine}{t:Trace}{o:Outcome}{w:World}{ops:Trace}(hs:stepT P m=(.ended o w,ops))(hq:Q m o w (t++ops)):Ends P m t Q :=
 ⟨0,m,o,w,t++ops,by simp [runNT,hs],rfl,by simp [step,hs],hq⟩
theorem Leads.ends{Q':Machine→Outcome→World→Trace→Prop}{m:Machine}{t:Trace}(h:Leads P m t Q)(k:∀ m t,Q m t→Ends P m t Q'):Ends P m t Q':=by
 obtain⟨n,m',t',h1,h2⟩:=h
 obtain⟨N,last,o,w,t2,e1,e2,e3,e4⟩:=k m' t' h2
 refine⟨n+N,last,o,w,t2,?_,?_,e3,e4⟩
 ·rw [Nat.add_assoc,runNT_add,h1];exact e1
 ·rw [runN_add,← runNT_fst P _ _ t,h1];exact e2
end
end Go.Proofs.YtdoibgmmijhlfaaGreat.Sm
namespace Go.Proofs.YtdoibgmmijhlfaaGreat.Sm
open Go Go.Conc Go.ConcN
set_option linter.unusedVariables false
section
variable {P:Program}{gs:Array Goroutine}{w w':World}{t:Trace}{l:List Nat}{a a':Goroutine}{sl:Option (Nat×Nat)}
def Lvs(P:Program)(gs:Array Goroutine)(t:Trace)(l:List Nat):Prop:=gs.size=l.length+1∧∀ k q,l[k]? = some q→∃ g,gs[k+1]? = some g∧QuitsD P q (Deaf t (k+1)) g
theorem woken_same{g g' o:Goroutine}(h:o.status≠.blocked)(h2:o.status≠.waiting):woken P g g' w' o=o:=by
 unfold woken
 split
 ·unfold Goroutine.again
  cases hs:o.status <;> simp_all
 ·rfl
theorem Lvs.get(h:Lvs P gs t l){k:Nat}{g:Goroutine}(hg:gs[k+1]? = some g):∃ q,l[k]? = some q∧QuitsD P q (Deaf t (k+1)) g:=by
 have hk:k<l.length:=by have:=(Array.getElem?_eq_some_iff.1 hg).1;rw [h.1] at this;omega
 obtain⟨g',h1,h2⟩:=h.2 k l[k] (List.getElem?_eq_getElem hk)
 rw [hg] at h1;cases h1
 exact⟨_,List.getElem?_eq_getElem hk,h2⟩
theorem Lvs.status(h:Lvs P gs t l){k:Nat}{g:Goroutine}(hg:gs[k+1]? = some g):g.status=.running∨g.status=.finished:=by
 obtain⟨q,_,hq⟩:=h.get hg
 exact hq.status
theorem Lvs.wake(h:Lvs P gs t l)(h0:gs[0]? = some a)(ha:a.status=.running)(g g':Goroutine)(w':World):gs.map (woken P g g' w')=gs:=by
 apply Array.ext_getElem?
 intro i
 rw [Array.getElem?_map]
 cases hi:gs[i]? with
 | none=>rfl
 | some o =>
  have:woken P g g' w' o=o:=by
   cases i with
   | zero=>rw [h0] at hi;cases hi;exact woken_same (by rw [ha];simp) (by rw [ha];simp)
   | succ k=>rcases h.status hi with e | e <;> exact woken_same (by rw [e];simp) (by rw [e];simp)
  simp [this]
theorem Lvs.awake(h:Lvs P gs t l)(h0:gs[0]? = some a)(ha:a.status=.running):∀ g∈gs,awake g:=by
 intro g hg tm
 obtain⟨i,hi⟩:=Array.mem_iff_getElem?.1 hg
 cases i with
 | zero=>rw [h0] at hi;cases hi;rw [ha];simp
 | succ k=>rcases h.status hi with e | e <;> rw [e] <;> simp
theorem Lvs.pick(h:Lvs P gs t l)(h0:gs[0]? = some a)(ha:a.status=.running):∃ (i:Nat) (g:Goroutine) (d:Nat) (sl':Option (Nat×Nat)),gs[i]? = some g∧g.status=.running∧stepT P (crowd gs w sl)=runT P (crowd gs (w.at d) sl') i :=
 crowd_pick (h.awake h0 ha) ⟨0,a,h0,ha⟩
theorem mem_of_g{g:Nat}{fn:FuncId}{pos:String}{es:Array Event}:∀ op∈MemOp.ofEvents g fn pos es,op.g=g:=fun op hop=>(mO hop).choose_spec.2.1
theorem Lvs.main(h:Lvs P gs t l)(h0:gs[0]? = some a)(ha:a.status=.running){es:Array Event}(e:stepG P true a w=.go a' w' es) :
  runT P (crowd gs w sl) 0=(.next (crowd (gs.setIfInBounds 0 a') w' sl),MemOp.ofEvents 0 a.frame.fn a.frame.place es)∧Lvs P (gs.setIfInBounds 0 a') (t++MemOp.ofEvents 0 a.frame.fn a.frame.place es) l∧(gs.setIfInBounds 0 a')[0]? = some a':=by
 have hr:=runT_crowd_go (sl:=sl) h0 (show stepG P (0 == 0) a w=.go a' w' es from e)
 rw [h.wake h0 ha] at hr
 have hlt:0<gs.size:=(Array.getElem?_eq_some_iff.1 h0).1
 refine⟨hr,⟨by simpa using h.1,fun k q hq=>?_⟩,by simp [hlt]⟩
 obtain⟨g,h1,h2⟩:=h.2 k q hq
 refine⟨g,by rw [Array.getElem?_setIfInBounds_ne (by omega)];exact h1,?_⟩
 rw [Deaf_other t (by omega) _ mem_of_g]
 exact h2
theorem Lvs.leave(h:Lvs P gs t l)(h0:gs[0]? = some a)(ha:a.status=.running){i:Nat}{g:Goroutine}(hi:gs[i+1]? = some g)(hr:g.status=.running) :
  ∃ (g':Goroutine) (es:Array Event) (l':List Nat),(∀ e∈es,Event.mute e=true)∧runT P (crowd gs w sl) (i+1)=(.next (crowd (gs.setIfInBounds (i+1) g') w sl),MemOp.ofEvents (i+1) g.frame.fn g.frame.place es) ∧
   Lvs P (gs.setIfInBounds (i+1) g') (t++MemOp.ofEvents (i+1) g.frame.fn g.frame.place es) l'∧Low1 (· < ·) l' l∧(gs.setIfInBounds (i+1) g')[0]? = some a:=by
 obtain⟨q,hq,hQ⟩:=h.get hi
 cases q with
 | zero=>rw [hQ.1] at hr;cases hr
 | succ q =>
  rcases hQ with ⟨hf,_⟩ | ⟨_,g',es,hm,hst,hq'⟩
  ·rw [hf] at hr;cases hr
  have hru:=runT_crowd_go (sl:=sl) hi (show stepG P (i+1 == 0) g w=.go g' w es from hst w)
  rw [h.wake h0 ha] at hru
  have hlt:i+1<gs.size:=(Array.getElem?_eq_some_iff.1 hi).1
  refine⟨g',es,l.set i q,hm,hru,⟨by simpa using h.1,fun k q2 hk=>?_⟩,⟨i,q+1,q,hq,Nat.lt_succ_self q,rfl⟩,by rw [Array.getElem?_setIfInBounds_ne (by omega)];exact h0⟩
  by_cases e:i=k
  ·subst e
   have hil:i<l.length:=by rw [h.1] at hlt;omega
   rw [List.getElem?_set_self hil] at hk
   cases hk
   refine⟨g',by simp [hlt],?_⟩
   rw [Deaf_own]
   exact hq'
  ·rw [List.getElem?_set_ne e] at hk
   obtain⟨g2,k1,k2⟩:=h.2 k q2 hk
   refine⟨g2,by rw [Array.getElem?_setIfInBounds_ne (by omega)];exact k1,?_⟩
   rw [Deaf_other t (by omega) _ mem_of_g]
   exact k2
theorem mute_ops{g:Nat}{fn:FuncId}{pos:String}{es:Array Event}(h:∀ e∈es,Event.mute e=true):∀ op∈MemOp.ofEvents g fn pos es,op.g=g∧op.act.touch? = none∧∀ ad,op.act≠.mark (.release ad):=by
 intro op hop
 obtain⟨e,he,h1,h2⟩:=mO hop
 have hm:=h e he
 rw [h2]
 obtain⟨loc,wr,sy⟩:=e
 unfold Event.mute at hm
 split at hm
 ·rename_i he;cases he;exact⟨h1,rfl,fun ad q=>by cases q⟩
 ·rename_i he;cases he;exact⟨h1,rfl,fun ad q=>by cases q⟩
 ·cases hm
structure Keeps(N:Nat)(D:World→World→Array Event→Prop)(J:World→Trace→Prop):Prop where
 at_:∀ w d t,J w t→J (w.at d) t
 own:∀ w w' es t fn pos,J w t→D w w' es→J w' (t++MemOp.ofEvents 0 fn pos es)
 mute:∀ w t u g,g<N→g≠0→(∀ op∈u,op.g=g∧op.act.touch? = none∧∀ ad,op.act≠.mark (.release ad))→J w t→J w (t++u)
def AtW(w w₁:World):Prop:=∃ d,w₁=w.at d
theorem AtW.refl(w:World):AtW w w:=⟨w.drawn,rfl⟩
theorem AtW.trans{w₁ w₂:World}(h:AtW w w₁)(k:AtW w₁ w₂):AtW w w₂:=by
 obtain⟨d,rfl⟩:=h
 obtain⟨d',rfl⟩:=k
 exact⟨d',rfl⟩
theorem alone_goes{N:Nat}{D:World→World→Array Event→Prop}{J:World→Trace→Prop}{Stop:Goroutine→World→Prop}(hJ:Keeps N D J)(hs:∀ g w,Stop g w→g.status=.running){n:Nat}(h0:gs[0]? = some a)(hL:Lvs P gs t l)(hN:gs.size=N)(hg:Goes P true AtW D Stop n a w)(hj:J w t) :
  Leads P (crowd gs w sl) t fun m t=>∃ gs' w' sl' a' l',m=crowd gs' w' sl'∧gs'[0]? = some a'∧Lvs P gs' t l'∧gs'.size=N∧Stop a' w'∧J w' t:=by
 refine leads_of_inv (r:=Prod.Lex (· < ·) (Low1 (· < ·))) (Prod.lex ⟨_,Nat.lt_wfRel.wf⟩ ⟨_,low1_wf Nat.lt_wfRel.wf⟩).wf
  (fun μ m t=>∃ gs w sl a,m=crowd gs w sl∧gs[0]? = some a∧Lvs P gs t μ.2∧gs.size=N∧Goes P true AtW D Stop μ.1 a w∧J w t) ?_ (n,l) _ _ ⟨gs,w,sl,a,rfl,h0,hL,hN,hg,hj⟩
 rintro⟨n,l⟩ m t ⟨gs,w,sl,a,rfl,h0,hL,hN,hg,hj⟩
 have hr:a.status=.running:=Goes.running hs w (AtW.refl w) hg
 rcases Goes.cases hg with hstop | ⟨n',rfl,hstep⟩
 ·exact .inl ⟨gs,w,sl,a,l,rfl,h0,hL,hN,hstop w (AtW.refl w),hj⟩
 ·obtain⟨i,g,d,sl',hi,hir,hst⟩:=hL.pick (w:=w) (sl:=sl) h0 hr
  right
  rw [hst]
  cases i with
  | zero =>
   rw [h0] at hi;cases hi
   obtain⟨a',w',es,hgo,hD,hg'⟩:=hstep (w.at d) ⟨d,rfl⟩
   obtain⟨e1,e2,e3⟩:=hL.main (sl:=sl') h0 hr hgo
   exact⟨_,_,(n',l),e1,.left _ _ (Nat.lt_succ_self _),_,_,_,_,rfl,e3,e2,by simpa using hN,hg',hJ.own _ _ _ _ _ _ (hJ.at_ _ d _ hj) hD⟩
  | succ i =>
   obtain⟨g',es,l',hm,e1,e2,e3,e4⟩:=hL.leave (w:=w.at d) (sl:=sl') h0 hr hi hir
   exact⟨_,_,(n'+1,l'),e1,.right _ e3,_,_,_,_,rfl,e4,e2,by simpa using hN,Goes.rely (R:=AtW) (fun _ _ _ h k=>AtW.trans h k) hg ⟨d,rfl⟩,hJ.mute _ _ _ (i+1) (by rw [← hN];exact(Array.getElem?_eq_some_iff.1 hi).1) (by omega) (mute_ops hm) (hJ.at_ _ d _ hj)⟩
end
end Go.Proofs.YtdoibgmmijhlfaaGreat.Sm
namespace Go.Proofs.YtdoibgmmijhlfaaGreat.Sm
open Go
set_option linter.unusedVariables false
def isRow(w:World)(b:Nat):Bool:=match w.heap[b]? with
 | some (.cells ..)=>true
 | _=>false
def ren0(G:Cx)(w:World):Ren G:=⟨fun b c=>b=c∧isRow w b=true,fun _ _ _ h k=>h.1.symm.trans k.1,fun _ _ _ h k=>h.1.trans k.1.symm,fun _ _ h k=>h.1 ▸ k⟩
def flatC:Value→Bool
 | .agg _ | .tuple _=>false
 | _=>true
def lonF(w:World):Value→Value
 | .pointer (some a)=>if isRow w a.block then .pointer (some a) else poison
 | .slice (some a) n c=>if isRow w a.block then .slice (some a) n c else if n=0∧c=0 then .slice (some ⟨0,0,none⟩) 0 0 else poison
 | v=>if alien v then poison else v
section
variable {G:Cx}{w:World}{F:FuncId→Prop}
theorem lonF_rel:∀ v,flatC v=true→VRel (ren0 G w) F (lonF w v) v:=by
 intro v h
 cases v with
 | bool b=>exact .bool b
 | int k n=>exact .int k n
 | string s=>exact .string s
 | pointer a =>
  cases a with
  | none=>exact .ptr0
  | some a =>
   by_cases hr:isRow w a.block=true
   ·simp only [lonF,hr,if_true];exact .ptr ⟨⟨rfl,hr⟩,rfl,rfl⟩
   ·simp only [lonF,hr];exact .bad rfl
 | slice a n c =>
  cases a with
  | none=>exact .sl0 n c
  | some a =>
   by_cases hr:isRow w a.block=true
   ·simp only [lonF,hr,if_true];exact .sl n c ⟨⟨rfl,hr⟩,rfl,rfl⟩
   ·by_cases hz:n=0∧c=0
    ·obtain⟨rfl,rfl⟩:=hz
     simp only [lonF,hr];exact .slz a
    ·simp only [lonF,hr,hz];exact .bad rfl
 | nilFunc=>exact .nilFunc
 | agg xs=>cases h
 | tuple xs=>cases h
 | _=>exact .bad rfl
theorem lon_ex:∀ (n:Nat) (v:Value),SizeOf.sizeOf v<n→∃ x,VRel (ren0 G w) (fun _=>False) x v∧(flatC v=true→x=lonF w v)
 | 0,v,h=>absurd h (Nat.not_lt_zero _)
 | n+1,v,h=>by
  by_cases hf:flatC v=true
  ·exact⟨_,lonF_rel v hf,fun _=>rfl⟩
  ·have row:∀ xs:Array Value,SizeOf.sizeOf xs<n+1→∃ ys:Array Value,ys.size=xs.size∧∀ (i:Nat) (x y:Value),ys[i]? = some x→xs[i]? = some y→VRel (ren0 G w) (fun _=>False) x y:=fun xs hs=>by
    have ex:∀ i:Fin xs.size,∃ x,VRel (ren0 G w) (fun _=>False) x xs[i]:=fun i=>by
     have hm:SizeOf.sizeOf xs[i]<SizeOf.sizeOf xs:=Array.sizeOf_getElem xs i.1 i.2
     obtain⟨x,hx,_⟩:=lon_ex n xs[i] (by omega)
     exact⟨x,hx⟩
    refine⟨Array.ofFn fun i=>Classical.choose (ex i),by simp,fun i x y hx hy=>?_⟩
    obtain⟨hi,rfl⟩:=Array.getElem?_eq_some_iff.1 hy
    rw [Array.getElem?_eq_getElem (by simpa using hi)] at hx
    simp only [Array.getElem_ofFn,Option.some.injEq] at hx
    subst hx
    exact Classical.choose_spec (ex ⟨i,hi⟩)
   cases v with
   | agg xs =>
    obtain⟨ys,h1,h2⟩:=row xs (by simp at h;omega)
    exact⟨.agg ys,.agg h1 h2,fun q=>by cases q⟩
   | tuple xs =>
    obtain⟨ys,h1,h2⟩:=row xs (by simp at h;omega)
    exact⟨.tuple ys,.tuple h1 h2,fun q=>by cases q⟩
   | _=>exact absurd rfl hf
end
noncomputable def lonV(G:Cx)(w:World)(v:Value):Value:=Classical.choose (lon_ex (G:=G) (w:=w) (SizeOf.sizeOf v+1) v (Nat.lt_succ_self _))
noncomputable def lonO(G:Cx)(w:World):Obj→Obj
 | .cells xs e z=>.cells (xs.map (lonV G w)) e (0,max z.2 xs.size)
 | o=>o
noncomputable def lonW(G:Cx)(w:World):World:={ w with heap:=w.heap.map (lonO G w) }
section
variable {G:Cx}{w:World}{F:FuncId→Prop}
theorem lonV_rel(v:Value):VRel (ren0 G w) F (lonV G w v) v:=(Classical.choose_spec (lon_ex (G:=G) (w:=w) (SizeOf.sizeOf v+1) v (Nat.lt_succ_self _))).1.wide fun _ q=>q.elim
theorem lonV_flat{v:Value}(h:flatC v=true):lonV G w v=lonF w v:=(Classical.choose_spec (lon_ex (G:=G) (w:=w) (SizeOf.sizeOf v+1) v (Nat.lt_succ_self _))).2 h
theorem lonV_int(k:IntKind)(n:Int):lonV G w (.int k n)=.int k n:=lonV_flat rfl
theorem lonV_bool(b:Bool):lonV G w (.bool b)=.bool b:=lonV_flat rfl
theorem lonV_string(s:ByteArray):lonV G w (.string s)=.string s:=lonV_flat rfl
theorem lon_size:(lonW G w).heap.size=w.heap.size:=by simp [lonW]
theorem lon_get(b:Nat):(lonW G w).heap[b]? = (w.heap[b]?).map (lonO G w):=by simp [lonW]
theorem isRow_iff{b:Nat}:isRow w b=true↔∃ xs e z,w.heap[b]? = some (.cells xs e z):=by
 unfold isRow
 cases h:w.heap[b]? with
 | none=>simp
 | some o=>cases o <;> simp
theorem lon_rel(hg:G.glob≤w.heap.size):WRel (ren0 G w) F (lonW G w) w:=by
 refine⟨fun b c h=>?_,by rw [lon_size];exact hg⟩
 obtain⟨rfl,hr⟩:=h
 obtain⟨xs,e,z,hx⟩:=isRow_iff.1 hr
 refine⟨_,_,by rw [lon_get,hx];rfl,hx,.row (.inr ⟨⟨by simp,fun i x y h1 h2=>?_⟩,fun i h1 h2=>?_⟩)⟩
 ·rw [Array.getElem?_map,h2] at h1
  cases h1
  exact lonV_rel y
 ·exact⟨Nat.zero_le _,Nat.lt_of_lt_of_le h2 (Nat.le_max_left _ _)⟩
theorem lon_cell{a:Addr}{v:Value}(h:w.cell? a=some v):(lonW G w).cell? a=some (lonV G w v):=by
 cases hb:w.heap[a.block]? with
 | none=>simp [World.cell?,hb] at h
 | some o =>
  cases o with
  | cells xs e z =>
   rw [cell_of_row hb] at h
   have hb2:(lonW G w).heap[a.block]? = some (.cells (xs.map (lonV G w)) e (0,max z.2 xs.size)):=by rw [lon_get,hb];rfl
   rw [cell_of_row hb2]
   by_cases hs:a.spot.isSome=true
   ·rw [if_pos hs] at h;cases h
   ·rw [if_neg hs] at h ⊢
    rw [Array.getElem?_map,h];rfl
  | _=>simp [World.cell?,hb] at h
theorem lon_fz{c o:Nat}:¬ MayWrite (ren0 G w) (lonW G w) c o:=by
 rintro⟨b,xs,e,z,⟨rfl,hr⟩,hb,ho,hz⟩
 obtain⟨ys,e',z',hy⟩:=isRow_iff.1 hr
 rw [lon_get,hy] at hb
 simp only [Option.map_some,lonO,Option.some.injEq,Obj.cells.injEq] at hb
 obtain⟨rfl,rfl,rfl⟩:=hb
 rw [Array.size_map] at ho
 exact hz ⟨Nat.zero_le _,Nat.lt_of_lt_of_le ho (Nat.le_max_right _ _)⟩
noncomputable def lonArg(G:Cx)(w:World):Value→Value
 | .agg cs=>.agg (cs.map (lonV G w))
 | v=>lonV G w v
theorem lonArg_rel(v:Value):VRel (ren0 G w) F (lonArg G w v) v:=by
 cases v with
 | agg cs =>
  refine .agg (by simp) fun i x y hx hy=>?_
  rw [Array.getElem?_map,hy] at hx
  cases hx
  exact lonV_rel y
 | _=>exact lonV_rel _
def Fits(w:World)(A:Option Addr)(n c:Nat):Prop:=n≤c∧∀ a,A=some a→0<c→isRow w a.block=true
def lonA(w:World):Option Addr→Option Addr
 | none=>none
 | some a=>if isRow w a.block then some a else some ⟨0,0,none⟩
theorem lonV_slice{A:Option Addr}{n c:Nat}(h:Fits w A n c):lonV G w (.slice A n c)=.slice (lonA w A) n c:=by
 rw [lonV_flat rfl]
 cases A with
 | none=>rfl
 | some a =>
  by_cases hr:isRow w a.block=true
  ·simp only [lonF,lonA,hr,if_true]
  ·have hc:c=0:=by
    rcases Nat.eq_zero_or_pos c with h0 | h0
    ·exact h0
    ·exact absurd (h.2 a rfl h0) hr
   have hn:n=0:=by have:=h.1;omega
   subst hc;subst hn
   simp [lonF,lonA,hr]
end
end Go.Proofs.YtdoibgmmijhlfaaGreat.Sm
namespace Go.Proofs.YtdoibgmmijhlfaaGreat.Lo
open Go.ChangeShapes Go.WideShapes Go.ChangeAt Go.RowKit Go.Deep Go.Proofs.YtdoibgmmijhlfaaGreat Go.Proofs.YtdoibgmmijhlfaaGreat.Sm
set_option linter.unusedVariables false
theorem spot_none{w:World}{x:Addr}{v:Value}(h:w.cell? x=some v):x=⟨x.block,x.off,none⟩:=by
 obtain⟨b,o,s⟩:=x
 cases s with
 | none=>rfl
 | some s =>
  exfalso
  unfold World.cell? at h
  simp only at h
  split at h
  ·simp at h
  ·cases h
theorem list_of{α:Type}(p:Nat→α→Prop):∀ n,(∀ i,i<n→∃ x,p i x)→∃ l:List α,l.length=n∧∀ (i:Nat) (x:α),l[i]? = some x→p i x
 | 0,_=>⟨[],rfl,fun i x h=>by simp at h⟩
 | n+1,h=>by
  obtain⟨l,hl,hp⟩:=list_of p n (fun i hi=>h i (by omega))
  obtain⟨x,hx⟩:=h n (by omega)
  refine⟨l++[x],by simp [hl],fun i y hy=>?_⟩
  by_cases e:i<n
  ·rw [List.getElem?_append_left (by omega)] at hy
   exact hp i y hy
  ·rw [List.getElem?_append_right (by omega)] at hy
   by_cases e2:i=n
   ·subst e2
    rw [hl] at hy
    simp at hy
    subst hy
    exact hx
   ·match hk:i-l.length,hy with
    | 0,_=>omega
    | k+1,hy=>simp at hy
theorem flatten_inv(s:Nat):∀ (l:List (List Value)),(∀ x∈l,x.length=s)→∀ (t:Nat) (v:Value),l.flatten[t]? = some v→∃ i j x,l[i]? = some x∧j<s∧t=i * s+j∧x[j]? = some v
 | [],_,t,v,h=>by simp at h
 | a :: l,hl,t,v,h=>by
  have ha:=hl a (by simp)
  rw [List.flatten_cons] at h
  by_cases e:t<s
  ·rw [List.getElem?_append_left (by omega)] at h
   exact⟨0,t,a,rfl,e,by omega,h⟩
  ·rw [List.getElem?_append_right (by omega),ha] at h
   obtain⟨i,j,x,h1,h2,h3,h4⟩:=flatten_inv s l (fun x hx=>hl x (by simp [hx])) (t-s) v h
   refine⟨i+1,j,x,by simpa using h1,h2,?_,h4⟩
   rw [Nat.add_mul];omega
section
variable {H:Type}{enc:TypeId×Value→H}{w:World}{held:Bool}{G:Cx}
theorem field_at{P:Program}{n:Nat}{t:TypeId}{c:List Value}{xs:List (DataW H×List MemPlace)}{i:Nat}(h:DataW.trod enc P w 0 (fun _=>true) held n t c=xs[i]?)(hi:i<xs.length):DataW.trod enc P w 0 (fun _=>true) held n t c=some xs[i]:=by
 rw [h,List.getElem?_eq_getElem hi]
theorem row_of{x:Addr}{v:Value}(h:w.cell? x=some v):isRow w x.block=true:=by
 cases hb:w.heap[x.block]? with
 | none=>simp [World.cell?,hb] at h
 | some o =>
  cases o with
  | cells xs e z=>exact isRow_iff.2 ⟨xs,e,z,hb⟩
  | _=>simp [World.cell?,hb] at h
theorem lon_cells{A:Option Addr}{vs:List Value}(h:CellsAt w A vs):CellsAt (lonW G w) (lonA w A) (vs.map (lonV G w)):=by
 intro i v hi
 rw [List.getElem?_map] at hi
 obtain⟨u,hu,rfl⟩:=Option.map_eq_some_iff.1 hi
 obtain⟨b,o,rfl,hc⟩:=h i u hu
 refine⟨b,o,?_,lon_cell hc⟩
 have hr:isRow w b=true:=row_of hc
 simp only [lonA,hr,if_true]
theorem lon_ways(ws:List WayM):(ws.flatMap WayM.vals).map (lonV G w)=ws.flatMap WayM.vals:=by
 rw [List.map_flatMap]
 exact congrArg (List.flatMap · ws) (funext fun x=>by simp [WayM.vals,lonV_int])
theorem lon_ends(es:List EndM):(es.flatMap EndM.vals).map (lonV G w)=es.flatMap EndM.vals:=by
 rw [List.map_flatMap]
 exact congrArg (List.flatMap · es) (funext fun x=>by simp [EndM.vals,lonV_int,lonV_bool])
theorem lon_ints(zs:List Int):(zs.map (Value.int .i64)).map (lonV G w)=zs.map (Value.int .i64):=by
 rw [List.map_map]
 exact List.map_congr_left fun x _=>lonV_int _ _
theorem one_int{fuel:Nat}{cs:List Value}{x:DataW H×List MemPlace}(h:DataW.trod enc Tryz.prog w 0 (fun _=>true) held fuel 3 cs=some x):∃ n,cs=[.int .i64 n]:=by
 obtain⟨n,e,_⟩:=DataW.trod_int Tryz.underlying3 h
 exact⟨n,e⟩
set_option maxRecDepth 100000 in
theorem way_open{fuel:Nat}{cs:List Value}{x:DataW H×List MemPlace}(h:DataW.trod enc Tryz.prog w 0 (fun _=>true) held fuel 110 cs=some x):∃ m:WayM,cs=m.vals:=by
 obtain⟨xs,n,_,_,hlen,hxl,hg⟩:=DataW.trod_struct Tryz.underlying110 h
 have hlen':cs.length=4:=hlen.trans (by kernel_rfl)
 have hxl':xs.length=4:=hxl
 match cs,hlen' with
 | [c0,c1,c2,c3],_ =>
  have g0:=field_at (hg 0 _ rfl) (by omega)
  have g0':DataW.trod enc Tryz.prog w 0 (fun _=>true) held n 3 [c0]=some xs[0]:=g0
  obtain⟨n0,e0⟩:=one_int g0'
  injection e0 with e0 _
  subst e0
  have g1:=field_at (hg 1 _ rfl) (by omega)
  have g1':DataW.trod enc Tryz.prog w 0 (fun _=>true) held n 3 [c1]=some xs[1]:=g1
  obtain⟨n1,e1⟩:=one_int g1'
  injection e1 with e1 _
  subst e1
  have g2:=field_at (hg 2 _ rfl) (by omega)
  have g2':DataW.trod enc Tryz.prog w 0 (fun _=>true) held n 3 [c2]=some xs[2]:=g2
  obtain⟨n2,e2⟩:=one_int g2'
  injection e2 with e2 _
  subst e2
  have g3:=field_at (hg 3 _ rfl) (by omega)
  have g3':DataW.trod enc Tryz.prog w 0 (fun _=>true) held n 3 [c3]=some xs[3]:=g3
  obtain⟨n3,e3⟩:=one_int g3'
  injection e3 with e3 _
  subst e3
  exact⟨⟨n0,n1,n2,n3⟩,rfl⟩
set_option maxRecDepth 100000 in
theorem end_open{fuel:Nat}{cs:List Value}{x:DataW H×List MemPlace}(h:DataW.trod enc Tryz.prog w 0 (fun _=>true) held fuel 75 cs=some x):∃ m:EndM,cs=m.vals:=by
 obtain⟨xs,n,_,_,hlen,hxl,hg⟩:=DataW.trod_struct Tryz.underlying75 h
 have hlen':cs.length=4:=hlen.trans (by kernel_rfl)
 have hxl':xs.length=4:=hxl
 match cs,hlen' with
 | [c0,c1,c2,c3],_ =>
  have g0:=field_at (hg 0 _ rfl) (by omega)
  have g0':DataW.trod enc Tryz.prog w 0 (fun _=>true) held n 3 [c0]=some xs[0]:=g0
  obtain⟨n0,e0⟩:=one_int g0'
  injection e0 with e0 _
  subst e0
  have g1:=field_at (hg 1 _ rfl) (by omega)
  have g1':DataW.trod enc Tryz.prog w 0 (fun _=>true) held n 3 [c1]=some xs[1]:=g1
  obtain⟨n1,e1⟩:=one_int g1'
  injection e1 with e1 _
  subst e1
  have g2:=field_at (hg 2 _ rfl) (by omega)
  have g2':DataW.trod enc Tryz.prog w 0 (fun _=>true) held n 3 [c2]=some xs[2]:=g2
  obtain⟨n2,e2⟩:=one_int g2'
  injection e2 with e2 _
  subst e2
  have g3:=field_at (hg 3 _ rfl) (by omega)
  have g3':DataW.trod enc Tryz.prog w 0 (fun _=>true) held n 4 [c3]=some xs[3]:=g3
  obtain⟨n3,e3,_⟩:=DataW.trod_bool Tryz.underlying4 g3'
  injection e3 with e3 _
  subst e3
  exact⟨⟨n0,n1,n2,n3⟩,rfl⟩
theorem slice_open{α:Type}{st et:TypeId}{s:Nat}(p:α→List Value→Prop)(hst:Tryz.prog.underlying st=some (.slice et))(hs:Tryz.prog.cellsOf et=s)(hs0:0<s)
  (hp:∀ (fuel:Nat) (cs:List Value) (x:DataW H×List MemPlace),DataW.trod enc Tryz.prog w 0 (fun _=>true) held fuel et cs=some x→∃ m,p m cs) {fuel:Nat} {cs:List Value} {x:DataW H×List MemPlace} (h:DataW.trod enc Tryz.prog w 0 (fun _=>true) held fuel st cs=some x) :
  ∃ A n c,∃ vss:List (List Value),∃ ms:List α,cs=[.slice A n c]∧Fits w A n c∧vss.length=n∧ms.length=n∧CellsAt w A vss.flatten∧(∀ l∈vss,l.length=s)∧∀ (i:Nat) (m:α) (l:List Value),ms[i]? = some m→vss[i]? = some l→p m l:=by
 rcases open_slice hst h with ⟨rfl,_⟩ | ⟨a,len,cap,m,n,D,Pl,rfl,_,hl,hm,hmm,_,hi⟩
 ·exact⟨none,0,0,[],[],rfl,⟨Nat.le_refl _,fun a q=>by cases q⟩,rfl,rfl,cellsAt_nil _ _,by simp,fun i m l a b=>by simp at a⟩
 ·have hlm:len≤m:=by rw [hmm];split <;> omega
  have key:∀ i,i<len→∃ y:α×List Value,p y.1 y.2∧y.2.length=s∧∀ j,j<s→w.cell? ((a.add (i * s)).add j)=y.2[j]?:=fun i hil=>by
   obtain⟨cs',hc,ht⟩:=hi i (by omega)
   obtain⟨mm,hmm'⟩:=hp _ _ _ ht
   rw [hs] at hc
   obtain⟨_,hcl,hat⟩:=World.cells?_some hc
   exact⟨(mm,cs'),hmm',hcl,hat⟩
  obtain⟨ys,hyl,hy⟩:=list_of _ len key
  refine⟨some a,len,cap,ys.map (·.2),ys.map (·.1),rfl,⟨hl,fun a' ha hc=>?_⟩,by simp [hyl],by simp [hyl],?_,?_,?_⟩
  ·obtain rfl:a=a':=Option.some.inj ha
   have hm0:0<m:=by rw [hmm];simpa using hc
   obtain⟨cs',hc',_⟩:=hi 0 hm0
   rw [hs] at hc'
   obtain⟨_,hcl,hat⟩:=World.cells?_some hc'
   have h0:=hat 0 hs0
   rw [List.getElem?_eq_getElem (by omega:0<cs'.length)] at h0
   have ea:(a.add (0 * s)).add 0=a:=by rw [Nat.zero_mul];rfl
   rw [ea] at h0
   exact row_of h0
  ·have hall:∀ x∈ys.map (·.2),x.length=s:=by
    intro x hx
    obtain⟨y,hy',rfl⟩:=List.mem_map.1 hx
    obtain⟨i,hi',rfl⟩:=List.mem_iff_getElem.1 hy'
    exact(hy i _ (List.getElem?_eq_getElem hi')).2.1
   intro t v ht
   obtain⟨i,j,x,h1,h2,h3,h4⟩:=flatten_inv s _ hall t v ht
   rw [List.getElem?_map,Option.map_eq_some_iff] at h1
   obtain⟨y,h1,rfl⟩:=h1
   have hlen:i<ys.length:=(List.getElem?_eq_some_iff.1 h1).1
   have hc:=(hy i y h1).2.2 j h2
   rw [h4] at hc
   have h0:0<ys.length:=by omega
   have hy0:=hy 0 ys[0] (List.getElem?_eq_getElem h0)
   have hc0:=hy0.2.2 0 hs0
   have hv0:(ys[0].2)[0]? = some ((ys[0].2)[0]'(by rw [hy0.2.1];exact hs0)):=List.getElem?_eq_getElem _
   rw [hv0] at hc0
   have ea:(a.add (0 * s)).add 0=a:=by rw [Nat.zero_mul];rfl
   rw [ea] at hc0
   have hsp:=spot_none hc0
   refine⟨a.block,a.off,by rw [← hsp],?_⟩
   rw [hsp,add_lit,add_lit] at hc
   rw [h3,← Nat.add_assoc]
   exact hc
  ·intro x hx
   obtain⟨y,hy',rfl⟩:=List.mem_map.1 hx
   obtain⟨i,hi',rfl⟩:=List.mem_iff_getElem.1 hy'
   exact(hy i _ (List.getElem?_eq_getElem hi')).2.1
  ·intro i mm l h1 h2
   rw [List.getElem?_map,Option.map_eq_some_iff] at h1 h2
   obtain⟨y,h1,rfl⟩:=h1
   obtain⟨y',h2,rfl⟩:=h2
   rw [h1] at h2
   injection h2 with h2
   subst h2
   exact(hy i y h1).1
theorem flat_of{α:Type}(f:α→List Value):∀ (vss:List (List Value)) (ms:List α),vss.length=ms.length→(∀ (i:Nat) (m:α) (l:List Value),ms[i]? = some m→vss[i]? = some l→l=f m)→vss.flatten=ms.flatMap f
 | [],[],_,_=>rfl
 | [],m :: ms,h,_=>by simp at h
 | l :: vss,[],h,_=>by simp at h
 | l :: vss,m :: ms,h,hp=>by
  rw [List.flatten_cons,List.flatMap_cons,hp 0 m l rfl rfl,flat_of f vss ms (by simpa using h) (fun i m' l' a b=>hp (i+1) m' l' (by simpa using a) (by simpa using b))]
theorem flat_one(ms:List Int):ms.flatMap (fun m=>[Value.int .i64 m])=ms.map (Value.int .i64):=by
 induction ms with
 | nil=>rfl
 | cons a l ih=>rw [List.flatMap_cons,List.map_cons,ih];rfl
theorem ways_open{fuel:Nat}{cs:List Value}{x:DataW H×List MemPlace}(h:DataW.trod enc Tryz.prog w 0 (fun _=>true) held fuel 71 cs=some x):∃ A n c,∃ ws:List WayM,cs=[.slice A n c]∧ws.length=n∧WaysAt (lonW G w) (lonA w A) ws∧Fits w A n c:=by
 obtain⟨A,n,c,vss,ms,e,h1,h2,h3,h4,_,h5⟩:=slice_open (s:=4) (fun (m:WayM) l=>l=m.vals) Tryz.underlying71 (by kernel_rfl) (by omega) (fun _ _ _ h=>way_open h) h
 refine⟨A,n,c,ms,e,h3,?_,h1⟩
 rw [flat_of WayM.vals vss ms (by omega) h5] at h4
 have:=lon_cells (G:=G) h4
 rw [lon_ways] at this
 exact this
theorem ends_open{fuel:Nat}{cs:List Value}{x:DataW H×List MemPlace}(h:DataW.trod enc Tryz.prog w 0 (fun _=>true) held fuel 24 cs=some x):∃ A n c,∃ es:List EndM,cs=[.slice A n c]∧es.length=n∧EndsAt (lonW G w) (lonA w A) es∧Fits w A n c:=by
 obtain⟨A,n,c,vss,ms,e,h1,h2,h3,h4,_,h5⟩:=slice_open (s:=4) (fun (m:EndM) l=>l=m.vals) Tryz.underlying24 (by kernel_rfl) (by omega) (fun _ _ _ h=>end_open h) h
 refine⟨A,n,c,ms,e,h3,?_,h1⟩
 rw [flat_of EndM.vals vss ms (by omega) h5] at h4
 have:=lon_cells (G:=G) h4
 rw [lon_ends] at this
 exact this
theorem ints_open{fuel:Nat}{cs:List Value}{x:DataW H×List MemPlace}(h:DataW.trod enc Tryz.prog w 0 (fun _=>true) held fuel 23 cs=some x):∃ A n c,∃ zs:List Int,cs=[.slice A n c]∧zs.length=n∧IntsAt (lonW G w) (lonA w A) zs∧Fits w A n c:=by
 obtain⟨A,n,c,vss,ms,e,h1,h2,h3,h4,_,h5⟩:=slice_open (s:=1) (fun (m:Int) l=>l=[.int .i64 m]) Tryz.underlying23 (by kernel_rfl) (by omega) (fun _ _ _ h=>one_int h) h
 refine⟨A,n,c,ms,e,h3,cells_ints ?_,h1⟩
 have:vss.flatten=ms.map (Value.int .i64):=by
  rw [flat_of (fun m=>[Value.int .i64 m]) vss ms (by omega) h5]
  exact flat_one ms
 rw [this] at h4
 have:=lon_cells (G:=G) h4
 rw [lon_ints] at this
 exact this
set_option maxRecDepth 100000 in
theorem piece_open{fuel:Nat}{cs:List Value}{x:DataW H×List MemPlace}(h:DataW.trod enc Tryz.prog w 0 (fun _=>true) held fuel 73 cs=some x):∃ m:PieceM,PieceVals (lonW G w) m (cs.map (lonV G w)):=by
 obtain⟨xs,n,_,_,hlen,hxl,hg⟩:=DataW.trod_struct Tryz.underlying73 h
 have hlen':cs.length=4:=hlen.trans (by kernel_rfl)
 have hxl':xs.length=4:=hxl
 match cs,hlen' with
 | [c0,c1,c2,c3],_ =>
  have g0:=field_at (hg 0 _ rfl) (by omega)
  have g0':DataW.trod enc Tryz.prog w 0 (fun _=>true) held n 5 [c0]=some xs[0]:=g0
  obtain⟨n0,e0,_⟩:=DataW.trod_int Tryz.underlying5 g0'
  injection e0 with e0 _
  subst e0
  have g1:=field_at (hg 1 _ rfl) (by omega)
  have g1':DataW.trod enc Tryz.prog w 0 (fun _=>true) held n 3 [c1]=some xs[1]:=g1
  obtain⟨n1,e1⟩:=one_int g1'
  injection e1 with e1 _
  subst e1
  have g2:=field_at (hg 2 _ rfl) (by omega)
  have g2':DataW.trod enc Tryz.prog w 0 (fun _=>true) held n 3 [c2]=some xs[2]:=g2
  obtain⟨n2,e2⟩:=one_int g2'
  injection e2 with e2 _
  subst e2
  have g3:=field_at (hg 3 _ rfl) (by omega)
  have g3':DataW.trod enc Tryz.prog w 0 (fun _=>true) held n 71 [c3]=some xs[3]:=g3
  obtain⟨A3,m3,k3,ws,e3,hl,hw,hf⟩:=ways_open (G:=G) g3'
  injection e3 with e3 _
  subst e3
  exact⟨⟨n0,n1,n2,ws⟩,lonA w A3,k3,by show [lonV G w _,lonV G w _,lonV G w _,lonV G w _]=[_,_,_,Value.slice (lonA w A3) ws.length k3];rw [lonV_int,lonV_int,lonV_int,lonV_slice hf,hl],hw⟩
theorem pieces_open{fuel:Nat}{cs:List Value}{x:DataW H×List MemPlace}(h:DataW.trod enc Tryz.prog w 0 (fun _=>true) held fuel 22 cs=some x):∃ A n c,∃ ps:List PieceM,cs=[.slice A n c]∧ps.length=n∧PiecesAt (lonW G w) (lonA w A) ps∧Fits w A n c:=by
 obtain⟨A,n,c,vss,ms,e,h1,h2,h3,h4,_,h5⟩:=slice_open (s:=4) (fun (m:PieceM) l=>PieceVals (lonW G w) m (l.map (lonV G w))) Tryz.underlying22 (by kernel_rfl) (by omega) (fun _ _ _ h=>piece_open h) h
 refine⟨A,n,c,ms,e,h3,⟨vss.map (List.map (lonV G w)),?_,by rw [List.length_map];omega,fun i m l a b=>?_⟩,h1⟩
 ·have:=lon_cells (G:=G) h4
  rw [List.map_flatten] at this
  exact this
 ·rw [List.getElem?_map] at b
  obtain⟨l',hl',rfl⟩:=Option.map_eq_some_iff.1 b
  exact h5 i m l' a hl'
set_option maxRecDepth 100000 in
theorem rules_open{r:Reach}{b0:Nat}{v:Value}{d:DataW H}{pl:List MemPlace}(hv:Value.okWide Tryz.prog w r b0 26 v)(h:DataW.Trod enc Tryz.prog w 0 (fun _=>true) held 26 v d pl):∃ R,RA (lonW G w) (lonArg G w v) R:=by
 obtain⟨cs,rfl,hsz⟩:=okWide_struct Tryz.underlying26 hv
 obtain⟨fuel,h⟩:=h
 obtain⟨cs⟩:=cs
 obtain⟨xs,n,_,_,hlen,hxl,hg⟩:=DataW.trod_struct Tryz.underlying26 h
 have hlen':cs.length=11:=hlen.trans (by kernel_rfl)
 have hxl':xs.length=11:=hxl
 match cs,hlen' with
 | [c0,c1,c2,c3,c4,c5,c6,c7,c8,c9,c10],_ =>
  have g0:=field_at (hg 0 _ rfl) (by omega)
  have g0':DataW.trod enc Tryz.prog w 0 (fun _=>true) held n 9 [c0]=some xs[0]:=g0
  obtain⟨n0,e0,_,hsz0⟩:=DataW.trod_string Tryz.underlying9 g0'
  injection e0 with e0 _
  subst e0
  have g1:=field_at (hg 1 _ rfl) (by omega)
  have g1':DataW.trod enc Tryz.prog w 0 (fun _=>true) held n 3 [c1]=some xs[1]:=g1
  obtain⟨n1,e1⟩:=one_int g1'
  injection e1 with e1 _
  subst e1
  have g2:=field_at (hg 2 _ rfl) (by omega)
  have g2':DataW.trod enc Tryz.prog w 0 (fun _=>true) held n 3 [c2]=some xs[2]:=g2
  obtain⟨n2,e2⟩:=one_int g2'
  injection e2 with e2 _
  subst e2
  have g3:=field_at (hg 3 _ rfl) (by omega)
  have g3':DataW.trod enc Tryz.prog w 0 (fun _=>true) held n 22 [c3]=some xs[3]:=g3
  obtain⟨A3,m3,k3,l3,e3,hl3,hw3,hc3⟩:=pieces_open (G:=G) g3'
  injection e3 with e3 _
  subst e3
  subst hl3
  have g4:=field_at (hg 4 _ rfl) (by omega)
  have g4':DataW.trod enc Tryz.prog w 0 (fun _=>true) held n 23 [c4]=some xs[4]:=g4
  obtain⟨A4,m4,k4,l4,e4,hl4,hw4,hc4⟩:=ints_open (G:=G) g4'
  injection e4 with e4 _
  subst e4
  subst hl4
  have g5:=field_at (hg 5 _ rfl) (by omega)
  have g5':DataW.trod enc Tryz.prog w 0 (fun _=>true) held n 4 [c5]=some xs[5]:=g5
  obtain⟨n5,e5,_⟩:=DataW.trod_bool Tryz.underlying4 g5'
  injection e5 with e5 _
  subst e5
  have g6:=field_at (hg 6 _ rfl) (by omega)
  have g6':DataW.trod enc Tryz.prog w 0 (fun _=>true) held n 4 [c6]=some xs[6]:=g6
  obtain⟨n6,e6,_⟩:=DataW.trod_bool Tryz.underlying4 g6'
  injection e6 with e6 _
  subst e6
  have g7:=field_at (hg 7 _ rfl) (by omega)
  have g7':DataW.trod enc Tryz.prog w 0 (fun _=>true) held n 24 [c7]=some xs[7]:=g7
  obtain⟨A7,m7,k7,l7,e7,hl7,hw7,hc7⟩:=ends_open (G:=G) g7'
  injection e7 with e7 _
  subst e7
  subst hl7
  have g8:=field_at (hg 8 _ rfl) (by omega)
  have g8':DataW.trod enc Tryz.prog w 0 (fun _=>true) held n 3 [c8]=some xs[8]:=g8
  obtain⟨n8,e8⟩:=one_int g8'
  injection e8 with e8 _
  subst e8
  have g9:=field_at (hg 9 _ rfl) (by omega)
  have g9':DataW.trod enc Tryz.prog w 0 (fun _=>true) held n 3 [c9]=some xs[9]:=g9
  obtain⟨n9,e9⟩:=one_int g9'
  injection e9 with e9 _
  subst e9
  have g10:=field_at (hg 10 _ rfl) (by omega)
  have g10':DataW.trod enc Tryz.prog w 0 (fun _=>true) held n 3 [c10]=some xs[10]:=g10
  obtain⟨n10,e10⟩:=one_int g10'
  injection e10 with e10 _
  subst e10
  refine⟨⟨n0,n1,n2,l3,l4,n5,n6,l7,n8,n9,n10⟩,lonA w A3,k3,lonA w A4,k4,lonA w A7,k7,?_,hw3,hw4,hw7,hc3.1,hc4.1,hc7.1,by simpa [maxLen] using hsz0⟩
  show Value.agg (Array.map (lonV G w) #[_,_,_,_,_,_,_,_,_,_,_])=_
  simp only [List.map_toArray,List.map_cons,List.map_nil,lonV_int,lonV_bool,lonV_string,lonV_slice hc3,lonV_slice hc4,lonV_slice hc7]
set_option maxRecDepth 100000 in
theorem pos_open{r:Reach}{b0:Nat}{v:Value}{d:DataW H}{pl:List MemPlace}(hv:Value.okWide Tryz.prog w r b0 29 v)(h:DataW.Trod enc Tryz.prog w 0 (fun _=>true) held 29 v d pl):∃ P,PA (lonW G w) (lonArg G w v) P:=by
 obtain⟨cs,rfl,hsz⟩:=okWide_struct Tryz.underlying29 hv
 obtain⟨fuel,h⟩:=h
 obtain⟨cs⟩:=cs
 obtain⟨xs,n,_,_,hlen,hxl,hg⟩:=DataW.trod_struct Tryz.underlying29 h
 have hlen':cs.length=5:=hlen.trans (by kernel_rfl)
 have hxl':xs.length=4:=hxl
 have hc23:Tryz.prog.cellsOf 23=1:=by kernel_rfl
 have hc34:Tryz.prog.cellsOf 27=2:=by kernel_rfl
 have hc3:Tryz.prog.cellsOf 3=1:=by kernel_rfl
 match cs,hlen' with
 | [c0,c1,c2,c3,c4],_ =>
  have g0:=field_at (hg 0 _ rfl) (by omega)
  have g1:=field_at (hg 1 _ rfl) (by omega)
  have g2:=field_at (hg 2 _ rfl) (by omega)
  have g3:=field_at (hg 3 _ rfl) (by omega)
  have g0':DataW.trod enc Tryz.prog w 0 (fun _=>true) held n 23 [c0]=some xs[0]:=g0
  have g1':DataW.trod enc Tryz.prog w 0 (fun _=>true) held n 27 [c1,c2]=some xs[1]:=g1
  have g2':DataW.trod enc Tryz.prog w 0 (fun _=>true) held n 3 [c3]=some xs[2]:=g2
  have g3':DataW.trod enc Tryz.prog w 0 (fun _=>true) held n 3 [c4]=some xs[3]:=g3
  obtain⟨ys,m,_,_,_,hyl,hy⟩:=DataW.trod_array Tryz.underlying27 g1'
  have y0:=field_at (hy 0 (by omega)) (by omega)
  have y1:=field_at (hy 1 (by omega)) (by omega)
  rw [hc23] at y0 y1
  have y0':DataW.trod enc Tryz.prog w 0 (fun _=>true) held m 23 [c1]=some ys[0]:=y0
  have y1':DataW.trod enc Tryz.prog w 0 (fun _=>true) held m 23 [c2]=some ys[1]:=y1
  obtain⟨A0,m0,k0,l0,e0,hl0,hw0,hc50⟩:=ints_open (G:=G) g0'
  injection e0 with e0 _
  subst e0
  subst hl0
  obtain⟨A1,m1,k1,l1,e1,hl1,hw1,hc51⟩:=ints_open (G:=G) y0'
  injection e1 with e1 _
  subst e1
  subst hl1
  obtain⟨A2,m2,k2,l2,e2,hl2,hw2,hc52⟩:=ints_open (G:=G) y1'
  injection e2 with e2 _
  subst e2
  subst hl2
  obtain⟨n3,e3⟩:=one_int g2'
  injection e3 with e3 _
  subst e3
  obtain⟨n4,e4⟩:=one_int g3'
  injection e4 with e4 _
  subst e4
  refine⟨⟨l0,l1,l2,n3,n4⟩,lonA w A0,k0,lonA w A1,k1,lonA w A2,k2,?_,hw0,hw1,hw2,hc50.1,hc51.1,hc52.1⟩
  show Value.agg (Array.map (lonV G w) #[_,_,_,_,_])=_
  simp only [List.map_toArray,List.map_cons,List.map_nil,lonV_int,lonV_slice hc50,lonV_slice hc51,lonV_slice hc52]
end
end Go.Proofs.YtdoibgmmijhlfaaGreat.Lo
