/- SimS SimL SimN SimP SimQ SimR SimT SimU SimX SimY -/
import Derived.Test.YtdoibgmmijhlfaaGreatC44
import Derived.Conc.Events
import Derived.Laws.Sem
namespace Go.Proofs.YtdoibgmmijhlfaaGreat.Sm
open Go
set_option linter.unusedVariables false
inductive ObjRel {G:Cx} (ρ:Ren G) (F:FuncId→Prop):Obj→Obj→Prop where
 | row {xs ys:Array Value} {e:TypeId} {z z':Nat×Nat} (h:xs.size=0∨(RW ρ F xs ys∧∀ i:Nat,z'.1≤i→i<z'.2→z.1≤i∧i<z.2)):ObjRel ρ F (.cells xs e z) (.cells ys e z')
 | number {a b:Addr} {l:Bool} (h:ARel ρ a b):ObjRel ρ F (.number a l) (.number b l)
structure WRel{G:Cx}(ρ:Ren G)(F:FuncId→Prop)(w w':World):Prop where
 objs:∀ b c,ρ.rel b c→∃ o o',w.heap[b]? = some o∧w'.heap[c]? = some o'∧ObjRel ρ F o o'
 base:G.glob≤w.heap.size
def Aligned(w w':World):Prop:=∀ i q,w.tape (w.drawn+i) q=w'.tape (w'.drawn+i) q
structure Grows(w u:World):Prop where
 size:w.heap.size≤u.heap.size
 row:∀ (b:Nat) (xs:Array Value) (e:TypeId) (z:Nat×Nat),w.heap[b]? = some (.cells xs e z)→∃ ys,u.heap[b]? = some (.cells ys e z)∧ys.size=xs.size
 num:∀ (b:Nat) (a:Addr) (l:Bool),w.heap[b]? = some (.number a l)→u.heap[b]? = some (.number a l)
 tape:u.tape=w.tape
 os:u.os=w.os
 output:u.output=w.output
theorem Grows.refl(w:World):Grows w w:=⟨Nat.le_refl _,fun b xs e z h=>⟨xs,h,rfl⟩,fun _ _ _ h=>h,rfl,rfl,rfl⟩
theorem Grows.trans{w v u:World}(h:Grows w v)(k:Grows v u):Grows w u :=
 ⟨Nat.le_trans h.size k.size,fun b xs e z hb=>by
  obtain⟨ys,h1,h2⟩:=h.row b xs e z hb
  obtain⟨zs,h3,h4⟩:=k.row b ys e z h1
  exact⟨zs,h3,h4.trans h2⟩,fun b a l hb=>k.num b a l (h.num b a l hb),k.tape.trans h.tape,k.os.trans h.os,k.output.trans h.output⟩
def MayRead{G:Cx}(ρ:Ren G)(w:World)(c:Nat):Prop:=∃ b xs e z,ρ.rel b c∧w.heap[b]? = some (.cells xs e z)∧xs.size≠0
def MayWrite{G:Cx}(ρ:Ren G)(w:World)(c o:Nat):Prop:=∃ b xs e z,ρ.rel b c∧w.heap[b]? = some (.cells xs e z)∧o<xs.size∧¬ (z.1≤o∧o<z.2)
def EvOk{G:Cx}(ρ:Ren G)(w:World)(e:Event):Prop :=
 e=⟨.mark .noRoom,false,true⟩∨(∃ c,e=⟨.obj c,false,false⟩∧∃ b a l,ρ.rel b c∧w.heap[b]? = some (.number a l)) ∨
  ∃ (c o:Nat) (wr:Bool),e=⟨.cell ⟨c,o,none⟩,wr,false⟩∧MayRead ρ w c∧(wr=true→MayWrite ρ w c o)
structure After{G:Cx}(F:FuncId→Prop)(ρ σ:Ren G)(w w' u u':World)(fs:Array Event):Prop where
 le:Ren.le ρ σ
 wrel:WRel σ F u u'
 al:Aligned u u'
 lone:Grows w u
 comp:Grows w' u'
 new:∀ b c,σ.rel b c→ρ.rel b c∨(w.heap.size≤b∧w'.heap.size≤c)
 only:∀ c,c<w'.heap.size→u'.heap[c]? = w'.heap[c]?∨∃ o,MayWrite ρ w c o
 evs:∀ e∈fs,EvOk σ u e
section
variable {F:FuncId→Prop}{G:Cx}
theorem MayRead.grow{ρ σ:Ren G}{w u:World}(h:Ren.le ρ σ)(g:Grows w u){c:Nat}:MayRead ρ w c→MayRead σ u c:=by
 rintro⟨b,xs,e,z,h1,h2,h3⟩
 obtain⟨ys,h4,h5⟩:=g.row b xs e z h2
 exact⟨b,ys,e,z,h _ _ h1,h4,by omega⟩
theorem MayWrite.grow{ρ σ:Ren G}{w u:World}(h:Ren.le ρ σ)(g:Grows w u){c o:Nat}:MayWrite ρ w c o→MayWrite σ u c o:=by
 rintro⟨b,xs,e,z,h1,h2,h3,h4⟩
 obtain⟨ys,h5,h6⟩:=g.row b xs e z h2
 exact⟨b,ys,e,z,h _ _ h1,h5,by omega,h4⟩
theorem EvOk.grow{ρ σ:Ren G}{w u:World}(h:Ren.le ρ σ)(g:Grows w u){e:Event}:EvOk ρ w e→EvOk σ u e:=by
 rintro(x | ⟨c,x,b,a,l,h1,h2⟩ | ⟨c,o,wr,x,h1,h2⟩)
 ·exact .inl x
 ·exact .inr (.inl ⟨c,x,b,a,l,h _ _ h1,g.num b a l h2⟩)
 ·exact .inr (.inr ⟨c,o,wr,x,h1.grow h g,fun q=>(h2 q).grow h g⟩)
theorem After.refl{ρ:Ren G}{w w':World}(h:WRel ρ F w w')(a:Aligned w w'):After F ρ ρ w w' w w' #[] :=
 ⟨Ren.le_refl _,h,a,Grows.refl _,Grows.refl _,fun _ _ x=>.inl x,fun _ _=>.inl rfl,by simp⟩
theorem After.back{ρ τ:Ren G}{w w' v v':World}{fs:Array Event}(h0:WRel ρ F w w')(h:After F ρ τ w w' v v' fs){c o:Nat}(hc:c<w'.heap.size):MayWrite τ v c o→MayWrite ρ w c o:=by
 rintro⟨b,xs,e,z,h1,h2,h3,h4⟩
 rcases h.new b c h1 with y | ⟨_,y⟩
 ·obtain⟨p,p',hp,hp',hr⟩:=h0.objs b c y
  cases hr with
  | @row us vs e₁ z₁ z₂ hx =>
   obtain⟨ys,h5,h6⟩:=h.lone.row b us e₁ z₁ hp
   rw [h5] at h2
   cases h2
   exact⟨b,us,e,z,y,hp,by omega,h4⟩
  | number hx =>
   have:=h.lone.num b _ _ hp
   rw [this] at h2;cases h2
 ·omega
theorem After.trans{ρ τ σ:Ren G}{w w' v v' u u':World}{fs gs:Array Event}(h0:WRel ρ F w w')(h:After F ρ τ w w' v v' fs)(k:After F τ σ v v' u u' gs):After F ρ σ w w' u u' (fs++gs):=by
 refine⟨Ren.le_trans h.le k.le,k.wrel,k.al,h.lone.trans k.lone,h.comp.trans k.comp,fun b c x=>?_,fun c hc=>?_,fun e he=>?_⟩
 ·rcases k.new b c x with x | ⟨x,y⟩
  ·exact h.new b c x
  ·exact .inr ⟨Nat.le_trans h.lone.size x,Nat.le_trans h.comp.size y⟩
 ·rcases k.only c (Nat.lt_of_lt_of_le hc h.comp.size) with x | ⟨o,x⟩
  ·rw [x];exact h.only c hc
  ·exact .inr ⟨o,h.back h0 hc x⟩
 ·rcases Array.mem_append.1 he with he | he
  ·exact(h.evs e he).grow k.le k.lone
  ·exact k.evs e he
end
def Doomed{α:Type}(p:Program)(s:Sem α):Prop:=∀ w es,∃ h u fs,s.runT p w es=(.halt h u,fs)∧((∃ why,h=.stuck why)∨∃ x,h=.unsupported x∧∀ g,x≠.initOrder g)
theorem runT_bind_halt{α β:Type}{p:Program}(s:Sem α)(f:α→Sem β)(w:World)(es:Array Event){h:Halt}{u:World}{fs:Array Event}(e:s.runT p w es=(.halt h u,fs)):(s.bind f).runT p w es=(.halt h u,fs):=by
 rw [Sem.runT_bind',e]
theorem Doomed.bind{α β:Type}{p:Program}{s:Sem α}(h:Doomed p s)(f:α→Sem β):Doomed p (s.bind f):=fun w es =>
 let ⟨x,u,fs,e,k⟩:=h w es
 ⟨x,u,fs,runT_bind_halt s f w es e,k⟩
inductive SRel (p p':Program) (F:FuncId→Prop) {G:Cx} {α β:Type} (P:Ren G→α→β→Prop):Ren G→Sem α→Sem β→Prop where
 | pure {ρ:Ren G} {a:α} {b:β} (h:P ρ a b):SRel p p' F P ρ (.pure a) (.pure b)
 | load {ρ:Ren G} {a b:Addr} {k:Value→Sem α} {l:Value→Sem β} (h:ARel ρ a b) (hk:∀ x y,VRel ρ F x y→SRel p p' F P ρ (k x) (l y)):SRel p p' F P ρ (.load .plain a k) (.load .plain b l)
 | store {ρ:Ren G} {a b:Addr} {x y:Value} {k:Sem α} {l:Sem β} (h:ARel ρ a b) (hv:VRel ρ F x y) (hk:SRel p p' F P ρ k l):SRel p p' F P ρ (.store .plain a x k) (.store .plain b y l)
 | new {ρ:Ren G} {o o':Obj} {k:Nat→Sem α} {l:Nat→Sem β} (h:ObjRel ρ F o o') (hk:∀ (σ:Ren G) (b c:Nat),Ren.le ρ σ→σ.rel b c→SRel p p' F P σ (k b) (l c)) :
   SRel p p' F P ρ (.new o k) (.new o' l)
 | shape {ρ:Ren G} {r r':Nat} {k:Option (TypeId×Nat)→Sem α} {l:Option (TypeId×Nat)→Sem β} (h:ρ.rel r r') (hn:SRel p p' F P ρ (k none) (l none))
   (hk:∀ e n m,n=0∨n=m→SRel p p' F P ρ (k (some (e,n))) (l (some (e,m)))):SRel p p' F P ρ (.shape r k) (.shape r' l)
 | getNum {ρ:Ren G} {r r':Nat} {k:Obj→Sem α} {l:Obj→Sem β} (h:ρ.rel r r') (hk:∀ a b n,ARel ρ a b→SRel p p' F P ρ (k (.number a n)) (l (.number b n))):SRel p p' F P ρ (.getObj r k) (.getObj r' l)
 | choose {ρ:Ren G} {q:Question} {k:Nat→Sem α} {l:Nat→Sem β} (hk:∀ n,SRel p p' F P ρ (k n) (l n)):SRel p p' F P ρ (.choose q k) (.choose q l)
 | program {ρ:Ren G} {k:Program→Sem α} {l:Program→Sem β} (hk:SRel p p' F P ρ (k p) (l p')):SRel p p' F P ρ (.program k) (.program l)
 | noRoom {ρ:Ren G} {k:Sem α} {l:Sem β} (hk:SRel p p' F P ρ k l):SRel p p' F P ρ (.mark .noRoom k) (.mark .noRoom l)
 | panic {ρ:Ren G} {x y:Value} (h:VRel ρ F x y):SRel p p' F P ρ (.halt (.panic x)) (.halt (.panic y))
 | stuck {ρ:Ren G} {why:String} {s':Sem β}:SRel p p' F P ρ (.halt (.stuck why)) s'
 | unsupported {ρ:Ren G} {u:Unsupported} {s':Sem β} (hu:∀ g,u≠.initOrder g):SRel p p' F P ρ (.halt (.unsupported u)) s'
 | doom {ρ:Ren G} {s:Sem α} {s':Sem β} (h:Doomed p s):SRel p p' F P ρ s s'
section
variable {p p':Program}{F:FuncId→Prop}{G:Cx}{α β γ δ:Type}{P:Ren G→α→β→Prop}{Q:Ren G→γ→δ→Prop}{ρ:Ren G}
theorem SRel.bind{s:Sem α}{s':Sem β}{f:α→Sem γ}{g:β→Sem δ}(h:SRel p p' F P ρ s s')(hf:∀ (σ:Ren G) (a:α) (b:β),Ren.le ρ σ→P σ a b→SRel p p' F Q σ (f a) (g b)):SRel p p' F Q ρ (s >>= f) (s' >>= g):=by
 show SRel p p' F Q ρ (s.bind f) (s'.bind g)
 induction h with
 | pure h=>exact hf _ _ _ (Ren.le_refl _) h
 | load h _ ih=>exact .load h fun x y hv=>ih x y hv hf
 | store h hv _ ih=>exact .store h hv (ih hf)
 | new h _ ih=>exact .new h fun σ b c hl hs=>ih σ b c hl hs fun τ a b hle=>hf τ a b (Ren.le_trans hl hle)
 | shape h _ _ i1 i2=>exact .shape h (i1 hf) fun e n m q=>i2 e n m q hf
 | getNum h _ ih=>exact .getNum h fun a b n q=>ih a b n q hf
 | choose _ ih=>exact .choose fun n=>ih n hf
 | program _ ih=>exact .program (ih hf)
 | noRoom _ ih=>exact .noRoom (ih hf)
 | panic h=>exact .panic h
 | stuck=>exact .stuck
 | unsupported hu=>exact .unsupported hu
 | doom h=>exact .doom (h.bind f)
theorem SRel.mono{R:Ren G→α→β→Prop}{s:Sem α}{s':Sem β}(h:SRel p p' F P ρ s s')(k:∀ (σ:Ren G) (a:α) (b:β),P σ a b→R σ a b):SRel p p' F R ρ s s':=by
 induction h with
 | pure h=>exact .pure (k _ _ _ h)
 | load h _ ih=>exact .load h fun x y hv=>ih x y hv
 | store h hv _ ih=>exact .store h hv ih
 | new h _ ih=>exact .new h fun σ b c hl hs=>ih σ b c hl hs
 | shape h _ _ i1 i2=>exact .shape h i1 fun e n m q=>i2 e n m q
 | getNum h _ ih=>exact .getNum h fun a b n q=>ih a b n q
 | choose _ ih=>exact .choose fun n=>ih n
 | program _ ih=>exact .program ih
 | noRoom _ ih=>exact .noRoom ih
 | panic h=>exact .panic h
 | stuck=>exact .stuck
 | unsupported hu=>exact .unsupported hu
 | doom h=>exact .doom h
def Sound(F:FuncId→Prop)(P:Ren G→α→β→Prop)(ρ:Ren G)(w w':World)(es':Array Event)(x:Result α×Array Event)(y:Result β×Array Event):Prop :=
 match x.1 with
 | .ok a u=>∃ σ b u' fs,y=(.ok b u',es'++fs)∧After F ρ σ w w' u u' fs∧P σ a b
 | .halt (.panic v) u=>∃ σ v' u' fs,y=(.halt (.panic v') u',es'++fs)∧After F ρ σ w w' u u' fs∧VRel σ F v v'
 | .halt (.stuck _) _=>True
 | .halt (.unsupported u) _=>∀ g,u≠.initOrder g
 | .halt _ _=>False
theorem Sound.after{τ:Ren G}{w w' v v':World}{es' fs:Array Event}{x:Result α×Array Event}{y:Result β×Array Event}(h0:WRel ρ F w w')(h:After F ρ τ w w' v v' fs)(k:Sound F P τ v v' (es'++fs) x y):Sound F P ρ w w' es' x y:=by
 unfold Sound at k ⊢
 split at k
 ·obtain⟨σ,b,u',gs,e,ha,hp⟩:=k
  exact⟨σ,b,u',fs++gs,by rw [e,Array.append_assoc],h.trans h0 ha,hp⟩
 ·obtain⟨σ,b,u',gs,e,ha,hp⟩:=k
  exact⟨σ,b,u',fs++gs,by rw [e,Array.append_assoc],h.trans h0 ha,hp⟩
 ·trivial
 ·exact k
 ·exact k.elim
theorem cell_of_row{w:World}{a:Addr}{xs:Array Value}{e:TypeId}{z:Nat×Nat}(h:w.heap[a.block]? = some (.cells xs e z)):w.cell? a=if a.spot.isSome then none else xs[a.off]?:=by simp only [World.cell?,h]
theorem loadAt_none{w:World}{a:Addr}{o o':Obj}(hr:ObjRel ρ F o o')(h:w.heap[a.block]? = some o)  : ∃ why,∀ at_:Bool,w.farLoad p a at_=.error (.stuck why):=by
 cases hr <;> exact⟨_,fun at_=>by simp only [World.farLoad,World.noCell,h];rfl⟩
theorem storeAt_none{w:World}{a:Addr}{o o':Obj}(hr:ObjRel ρ F o o')(h:w.heap[a.block]? = some o)  : ∃ why,∀ (v:Value) (at_:Bool),w.farStore p a v at_=.error (.stuck why):=by
 cases hr <;> exact⟨_,fun v at_=>by simp only [World.farStore,World.noCell,h];rfl⟩
theorem WRel.cell{w w':World}(hw:WRel ρ F w w'){a b:Addr}(h:ARel ρ a b){x:Value}(hc:w.cell? a=some x) :
  ∃ xs ys e z z' y,w.heap[a.block]? = some (.cells xs e z)∧w'.heap[b.block]? = some (.cells ys e z')∧RW ρ F xs ys∧(∀ i:Nat,z'.1≤i→i<z'.2→z.1≤i∧i<z.2) ∧
   a.spot=none∧b.spot=none∧xs[a.off]? = some x∧ys[b.off]? = some y∧w'.cell? b=some y∧VRel ρ F x y∧xs.size≠0:=by
 obtain⟨o,o',h1,h2,hr⟩:=hw.objs _ _ h.blk
 cases hr with
 | number _=>simp only [World.cell?,h1] at hc;cases hc
 | @row xs ys e z z' hx =>
  rw [cell_of_row h1] at hc
  split at hc
  ·cases hc
  ·rename_i hs
   rcases hx with hx | ⟨hx,hz⟩
   ·obtain⟨hi,_⟩:=Array.getElem?_eq_some_iff.1 hc
    omega
   ·obtain⟨y,hy,hv⟩:=hx.get hc
    have hi:=(Array.getElem?_eq_some_iff.1 hc).1
    exact⟨xs,ys,e,z,z',y,h1,h2,hx,hz,by simpa using hs,by rw [h.spot];simpa using hs,hc,by rw [h.off];exact hy,by rw [cell_of_row h2,h.spot,if_neg hs,h.off];exact hy,hv,by omega⟩
theorem Addr.eta{b:Addr}(h:b.spot=none):(⟨b.block,b.off,none⟩:Addr)=b:=by
 obtain⟨b1,b2,b3⟩:=b
 simp only at h
 subst h;rfl
theorem WRel.push{w w':World}(hw:WRel ρ F w w')(ha:Aligned w w'){o o':Obj}(h:ObjRel ρ F o o') :
  ∃ σ:Ren G,σ.rel w.heap.size w'.heap.size∧After F ρ σ w w' { w with heap:=w.heap.push o } { w' with heap:=w'.heap.push o' } #[]:=by
 have lt:∀ b c,ρ.rel b c→b<w.heap.size∧c<w'.heap.size:=fun b c q=>by
  obtain⟨o,o',h1,h2,_⟩:=hw.objs b c q
  exact⟨(Array.getElem?_eq_some_iff.1 h1).1,(Array.getElem?_eq_some_iff.1 h2).1⟩
 let σ:Ren G:=⟨fun b c=>ρ.rel b c∨(b=w.heap.size∧c=w'.heap.size),fun b c d h k=>by
   rcases h with h | ⟨h1,h2⟩ <;> rcases k with k | ⟨k1,k2⟩
   ·exact ρ.fn _ _ _ h k
   ·have:=(lt _ _ h).1;omega
   ·have:=(lt _ _ k).1;omega
   ·omega,fun a b c h k=>by
   rcases h with h | ⟨h1,h2⟩ <;> rcases k with k | ⟨k1,k2⟩
   ·exact ρ.inj _ _ _ h k
   ·have:=(lt _ _ h).2;omega
   ·have:=(lt _ _ k).2;omega
   ·omega,fun b c h hb=>by
   rcases h with h | ⟨h1,h2⟩
   ·exact ρ.glob _ _ h hb
   ·have:=hw.base;omega⟩
 have hle:Ren.le ρ σ:=fun _ _ q=>.inl q
 have hmono:∀ {x x':Obj},ObjRel ρ F x x'→ObjRel σ F x x':=fun q=>by
  cases q with
  | row h=>exact .row (h.imp id fun h=>⟨h.1.mono hle,h.2⟩)
  | number h=>exact .number (h.mono hle)
 have old:∀ {v:World} {x:Obj} {d:Nat} {y:Obj},v.heap[d]? = some y→(v.heap.push x)[d]? = some y:=fun {v x d y} q=>by
  have:=(Array.getElem?_eq_some_iff.1 q).1
  rw [Array.getElem?_push,if_neg (by omega)];exact q
 refine⟨σ,.inr ⟨rfl,rfl⟩,hle,⟨fun d c hd=>?_,?_⟩,ha,?_,?_,fun b c q=>q.imp id fun ⟨x,y⟩=>⟨by omega,by omega⟩,fun c hc=>.inl ?_,by simp⟩
 ·rcases hd with hd | ⟨rfl,rfl⟩
  ·obtain⟨x,x',h1,h2,h3⟩:=hw.objs d c hd
   exact⟨x,x',old h1,old h2,hmono h3⟩
  ·exact⟨o,o',by show (w.heap.push _)[w.heap.size]? = _;simp,by show (w'.heap.push _)[w'.heap.size]? = _;simp,hmono h⟩
 ·show G.glob≤(w.heap.push o).size
  have:=hw.base
  simp;omega
 ·exact⟨by simp,fun d vs e₁ z₁ hd=>⟨vs,old hd,rfl⟩,fun d a l hd=>old hd,rfl,rfl,rfl⟩
 ·exact⟨by simp,fun d vs e₁ z₁ hd=>⟨vs,old hd,rfl⟩,fun d a l hd=>old hd,rfl,rfl,rfl⟩
 ·show (w'.heap.push _)[c]? = _
  rw [Array.getElem?_push,if_neg (by omega)]
theorem WRel.store{w w':World}(hw:WRel ρ F w w')(ha:Aligned w w'){a b:Addr}(h:ARel ρ a b){v x y:Value}(hc:w.cell? a=some v)(hf:w.frozen? a=false)(hv:VRel ρ F x y) :
  w'.frozen? b=false∧After F ρ ρ w w' (w.setCell a x) (w'.setCell b y) #[⟨.cell b,true,false⟩]:=by
 obtain⟨xs,ys,e,z,z',u,h1,h2,h3,h4,has,hbs,hxa,_,_,_,hne⟩:=hw.cell h hc
 have hfz:¬ (z.1≤a.off∧a.off<z.2):=by
  simp only [World.frozen?,h1,Bool.and_eq_false_iff,decide_eq_false_iff_not] at hf
  omega
 have hf':w'.frozen? b=false:=by
  simp only [World.frozen?,h2,h.off]
  by_cases h5:z'.1≤a.off∧a.off<z'.2
  ·exact absurd (h4 _ h5.1 h5.2) hfz
  ·simp only [Bool.and_eq_false_iff,decide_eq_false_iff_not]
   omega
 have s1:(w.setCell a x).heap[a.block]? = some (.cells (xs.setIfInBounds a.off x) e z):=by
  simp [World.setCell,Array.getElem?_modify,h1,has]
 have s2:(w'.setCell b y).heap[b.block]? = some (.cells (ys.setIfInBounds a.off y) e z'):=by
  simp [World.setCell,Array.getElem?_modify,h2,hbs,h.off]
 have o1:∀ d,d≠a.block→(w.setCell a x).heap[d]? = w.heap[d]?:=fun d hd=>by
  simp only [World.setCell,Array.getElem?_modify,if_neg (Ne.symm hd)]
 have o2:∀ d,d≠b.block→(w'.setCell b y).heap[d]? = w'.heap[d]?:=fun d hd=>by
  simp only [World.setCell,Array.getElem?_modify,if_neg (Ne.symm hd)]
 have g1:Grows w (w.setCell a x):=by
  refine⟨by simp [World.setCell],fun d vs e₁ z₁ hd=>?_,fun d a' l hd=>?_,rfl,rfl,rfl⟩
  ·by_cases hda:d=a.block
   ·subst hda
    rw [h1] at hd;cases hd
    exact⟨_,s1,by simp⟩
   ·exact⟨vs,by rw [o1 d hda];exact hd,rfl⟩
  ·by_cases hda:d=a.block
   ·subst hda
    rw [h1] at hd;cases hd
   ·rw [o1 d hda];exact hd
 have g2:Grows w' (w'.setCell b y):=by
  refine⟨by simp [World.setCell],fun d vs e₁ z₁ hd=>?_,fun d a' l hd=>?_,rfl,rfl,rfl⟩
  ·by_cases hda:d=b.block
   ·subst hda
    rw [h2] at hd;cases hd
    exact⟨_,s2,by simp⟩
   ·exact⟨vs,by rw [o2 d hda];exact hd,rfl⟩
  ·by_cases hda:d=b.block
   ·subst hda
    rw [h2] at hd;cases hd
   ·rw [o2 d hda];exact hd
 have mr:MayWrite ρ w b.block b.off:=⟨a.block,xs,e,z,h.blk,h1,by rw [h.off];exact(Array.getElem?_eq_some_iff.1 hxa).1,by rw [h.off];exact hfz⟩
 refine⟨hf',Ren.le_refl _,⟨fun d c hd=>?_,?_⟩,ha,g1,g2,fun _ _ x=>.inl x,fun c hc=>?_,fun e₁ he=>?_⟩
 ·by_cases hda:d=a.block
  ·subst hda
   obtain rfl:c=b.block:=ρ.fn _ _ _ hd h.blk
   exact⟨_,_,s1,s2,.row (.inr ⟨h3.set _ hv,h4⟩)⟩
  ·have hcb:c≠b.block:=fun q=>hda (by subst q;exact ρ.inj _ _ _ hd h.blk)
   rw [o1 d hda,o2 c hcb]
   exact hw.objs d c hd
 ·rw [show (w.setCell a x).heap.size=w.heap.size from by simp [World.setCell]]
  exact hw.base
 ·by_cases hcb:c=b.block
  ·exact .inr ⟨b.off,by rw [hcb];exact mr⟩
  ·exact .inl (o2 c hcb)
 ·have:e₁=⟨.cell b,true,false⟩:=by simpa using he
  subst this
  exact .inr (.inr ⟨b.block,b.off,true,by rw [Addr.eta hbs],MayRead.grow (Ren.le_refl _) g1 ⟨a.block,xs,e,z,h.blk,h1,hne⟩,fun _=>mr.grow (Ren.le_refl _) g1⟩)
theorem SRel.sound{s:Sem α}{s':Sem β}(h:SRel p p' F P ρ s s'):∀ (w w':World) (es es':Array Event),WRel ρ F w w'→Aligned w w'→Sound F P ρ w w' es' (s.runT p w es) (s'.runT p' w' es'):=by
 induction h with
 | pure h =>
  intro w w' es es' hw ha
  exact⟨_,_,_,#[],by simp [Sem.runT,-Sem.runT_eq],After.refl hw ha,h⟩
 | @load ρ a b k l h hk ih =>
  intro w w' es es' hw ha
  cases hc:w.cell? a with
  | none =>
   obtain⟨o,o',h1,h2,hr⟩:=hw.objs _ _ h.blk
   obtain⟨why,hwhy⟩:=loadAt_none (p:=p) hr h1
   simp only [Sem.runT,hc,hwhy]
   trivial
  | some x =>
   obtain⟨xs,ys,e,z,z',y,h1,h2,h3,h4,has,hbs,_,_,hc2,hv,hne⟩:=hw.cell h hc
   simp only [Sem.runT,hc,hc2]
   refine Sound.after (fs:=#[⟨.cell b,false,false⟩]) hw ?_ (ih x y hv w w' _ _ hw ha)
   refine⟨Ren.le_refl _,hw,ha,Grows.refl _,Grows.refl _,fun _ _ x=>.inl x,fun _ _=>.inl rfl,fun e₁ he=>?_⟩
   have:e₁=⟨.cell b,false,false⟩:=by simpa using he
   subst this
   exact .inr (.inr ⟨b.block,b.off,false,by rw [Addr.eta hbs],⟨a.block,xs,e,z,h.blk,h1,hne⟩,fun q=>by cases q⟩)
 | @store ρ a b x y k l h hv hk ih =>
  intro w w' es es' hw ha
  have hna:(∃ cs,x=.agg cs)∨(∃ cs,x=.tuple cs)∨((∀ cs,x≠.agg cs)∧(∀ cs,x≠.tuple cs)∧(∀ cs,y≠.agg cs)∧(∀ cs,y≠.tuple cs)):=by
   cases hv <;> first | exact .inl ⟨_,rfl⟩ | exact .inr (.inl ⟨_,rfl⟩) | exact .inr (.inr ⟨fun _=>Value.noConfusion,fun _=>Value.noConfusion,fun _=>Value.noConfusion,fun _=>Value.noConfusion⟩) | (rename_i hq;exact .inr (.inr ⟨fun _ q=>(by cases q),fun _ q=>(by cases q),fun _ q=>(by subst q;cases hq),fun _ q=>(by subst q;cases hq)⟩))
  rcases hna with ⟨cs,rfl⟩ | ⟨cs,rfl⟩ | ⟨n1,n2,n3,n4⟩
  ·simp only [Sem.runT];trivial
  ·simp only [Sem.runT];trivial
  have e1:(Sem.store .plain a x k).runT p w es=match w.cell? a with
    | some _ => if w.frozen? a then (.halt (.unsupported (.unsafePointer "a write to bytes that a string shares")) w, es) else k.runT p (w.setCell a x) (es.push ⟨.cell a, true, false⟩)
    | none=>match w.farStore p a x false with
     | .ok (w,touched)=>k.runT p w (es++touched.toArray.map (⟨.cell ·,true,false⟩))
     | .error h=>(.halt h w,es):=by
   cases x <;> first | rfl | exact absurd rfl (n1 _) | exact absurd rfl (n2 _)
  have e2:(Sem.store .plain b y l).runT p' w' es'=match w'.cell? b with
    | some _ => if w'.frozen? b then (.halt (.unsupported (.unsafePointer "a write to bytes that a string shares")) w', es') else l.runT p' (w'.setCell b y) (es'.push ⟨.cell b, true, false⟩)
    | none=>match w'.farStore p' b y false with
     | .ok (w,touched)=>l.runT p' w (es'++touched.toArray.map (⟨.cell ·,true,false⟩))
     | .error h=>(.halt h w',es'):=by
   cases y <;> first | rfl | exact absurd rfl (n3 _) | exact absurd rfl (n4 _)
  rw [e1,e2]
  cases hc:w.cell? a with
  | none =>
   obtain⟨o,o',h1,h2,hr⟩:=hw.objs _ _ h.blk
   obtain⟨why,hwhy⟩:=storeAt_none (p:=p) hr h1
   simp only [hwhy]
   trivial
  | some v =>
   obtain⟨xs,ys,e,z,z',u,h1,h2,h3,h4,has,hbs,_,_,hc2,_,hne⟩:=hw.cell h hc
   simp only [hc2]
   by_cases hf:w.frozen? a=true
   ·simp only [hf,if_true]
    intro g;exact fun q=>by cases q
   ·have hf0:w.frozen? a=false:=by simpa using hf
    obtain⟨hf',hA⟩:=hw.store ha h hc hf0 hv
    simp only [hf0,hf',if_false,Bool.false_eq_true]
    rw [show es'.push ⟨.cell b,true,false⟩=es'++#[⟨.cell b,true,false⟩] from by simp]
    exact Sound.after hw hA (ih _ _ _ _ hA.wrel ha)
 | @new ρ o o' k l h hk ih =>
  intro w w' es es' hw ha
  obtain⟨σ,hs,hA⟩:=hw.push ha h
  have e1:(Sem.new o k).runT p w es=(k w.heap.size).runT p { w with heap:=w.heap.push o } es:=rfl
  have e2:(Sem.new o' l).runT p' w' es'=(l w'.heap.size).runT p' { w' with heap:=w'.heap.push o' } es':=rfl
  rw [e1,e2]
  exact Sound.after hw hA (by rw [Array.append_empty];exact ih σ _ _ hA.le hs _ _ _ _ hA.wrel ha)
 | @shape ρ r r' k l h hn hk i1 i2 =>
  intro w w' es es' hw ha
  obtain⟨o,o',h1,h2,hr⟩:=hw.objs _ _ h
  have e1:(Sem.shape r k).runT p w es=(k (w.shape? r)).runT p w es:=rfl
  have e2:(Sem.shape r' l).runT p' w' es'=(l (w'.shape? r')).runT p' w' es':=rfl
  rw [e1,e2]
  cases hr with
  | @row xs ys e z z' hx =>
   have s1:w.shape? r=some (e,xs.size):=by simp only [World.shape?,h1]
   have s2:w'.shape? r'=some (e,ys.size):=by simp only [World.shape?,h2]
   rw [s1,s2]
   exact i2 e xs.size ys.size (hx.imp id fun q=>q.1.size) w w' es es' hw ha
  | number hx =>
   have s1:w.shape? r=none:=by simp only [World.shape?,h1]
   have s2:w'.shape? r'=none:=by simp only [World.shape?,h2]
   rw [s1,s2]
   exact i1 w w' es es' hw ha
 | @getNum ρ r r' k l h hk ih =>
  intro w w' es es' hw ha
  obtain⟨o,o',h1,h2,hr⟩:=hw.objs _ _ h
  cases hr with
  | row hx=>simp only [Sem.runT,h1];trivial
  | @number a b n hx =>
   simp only [Sem.runT,h1,h2]
   rw [show es'.push ⟨.obj r',false,Obj.isChan (.number b n)⟩=es'++#[⟨.obj r',false,false⟩] from by simp [Obj.isChan]]
   refine Sound.after hw ?_ (ih a b n hx w w' _ _ hw ha)
   refine⟨Ren.le_refl _,hw,ha,Grows.refl _,Grows.refl _,fun _ _ x=>.inl x,fun _ _=>.inl rfl,fun e₁ he=>?_⟩
   have:e₁=⟨.obj r',false,false⟩:=by simpa using he
   exact .inr (.inl ⟨r',this,r,a,n,h,h1⟩)
 | @choose ρ q k l hk ih =>
  intro w w' es es' hw ha
  by_cases hq:q.forced=true
  ·have e1:(Sem.choose q k).runT p w es=(k 0).runT p w es:=by simp only [Sem.runT,hq,if_true]
   have e2:(Sem.choose q l).runT p' w' es'=(l 0).runT p' w' es':=by simp only [Sem.runT,hq,if_true]
   rw [e1,e2]
   exact ih 0 w w' es es' hw ha
  ·have e1:(Sem.choose q k).runT p w es=(k (q.cut (w.tape w.drawn q))).runT p { w with drawn:=w.drawn+1 } es:=by simp only [Sem.runT,hq,if_false,Bool.false_eq_true]
   have e2:(Sem.choose q l).runT p' w' es'=(l (q.cut (w'.tape w'.drawn q))).runT p' { w' with drawn:=w'.drawn+1 } es':=by simp only [Sem.runT,hq,if_false,Bool.false_eq_true]
   have ea:w.tape w.drawn q=w'.tape w'.drawn q:=ha 0 q
   have ha2:Aligned { w with drawn:=w.drawn+1 } { w' with drawn:=w'.drawn+1 }:=fun i r=>by
    have:=ha (1+i) r
    simpa only [Nat.add_assoc] using this
   have hw2:WRel ρ F { w with drawn:=w.drawn+1 } { w' with drawn:=w'.drawn+1 }:=⟨hw.objs,hw.base⟩
   rw [e1,e2,ea]
   refine Sound.after (fs:=#[]) hw ?_ (by rw [Array.append_empty];exact ih _ _ _ es es' hw2 ha2)
   exact⟨Ren.le_refl _,hw2,ha2,⟨Nat.le_refl _,fun b xs e z h=>⟨xs,h,rfl⟩,fun _ _ _ h=>h,rfl,rfl,rfl⟩,⟨Nat.le_refl _,fun b xs e z h=>⟨xs,h,rfl⟩,fun _ _ _ h=>h,rfl,rfl,rfl⟩,fun _ _ x=>.inl x,fun _ _=>.inl rfl,by simp⟩
 | program _ ih =>
  intro w w' es es' hw ha
  exact ih w w' es es' hw ha
 | @noRoom ρ k l hk ih =>
  intro w w' es es' hw ha
  have e2:(Sem.mark .noRoom l).runT p' w' es'=l.runT p' w' (es'++#[⟨.mark .noRoom,false,true⟩]):=by simp [Sem.runT,-Sem.runT_eq]
  rw [e2]
  refine Sound.after (fs:=#[⟨.mark .noRoom,false,true⟩]) hw ?_ (ih w w' (es.push ⟨.mark .noRoom,false,true⟩) _ hw ha)
  exact⟨Ren.le_refl _,hw,ha,Grows.refl _,Grows.refl _,fun _ _ x=>.inl x,fun _ _=>.inl rfl,fun e he=>.inl (by simpa using he)⟩
 | panic h =>
  intro w w' es es' hw ha
  exact⟨_,_,_,#[],by simp [Sem.runT,-Sem.runT_eq],After.refl hw ha,h⟩
 | stuck=>intro w w' es es' hw ha;trivial
 | unsupported hu=>intro w w' es es' hw ha;exact hu
 | doom h =>
  intro w w' es es' hw ha
  obtain⟨x,u,fs,e,⟨why,rfl⟩ | ⟨x',rfl,hx⟩⟩:=h w es
  ·rw [e];trivial
  ·rw [e];exact hx
end
structure TB(p p':Program)(G:Cx):Prop where
 eq:p'.toTables=p.toTables
 m1:G.mark p.rt.boundsError=false
 m2:G.mark p.rt.errorString=false
 m3:G.mark p.rt.plainError=false
 nm : (p.info? 0).all (fun i => (i.methods.find? (·.name == "")).isNone) = true
section
variable {p p':Program}{F:FuncId→Prop}{G:Cx}{ρ:Ren G}{α β:Type}{P:Ren G→α→β→Prop}
theorem info_same(hT:TB p p' G)(t:TypeId):p'.info? t=p.info? t:=by
 have h:=hT.eq
 cases p;cases p';simp only at h;subst h;rfl
theorem underlying_same(hT:TB p p' G)(t:TypeId):p'.underlying t=p.underlying t:=by
 have h:=hT.eq
 cases p;cases p';simp only at h;subst h;rfl
theorem s_withProg{f:Program→Sem α}{s:Program→Sem β}(h:SRel p p' F P ρ (f p) (s p')):SRel p p' F P ρ (program >>= f) (program >>= s):=.program h
theorem s_withShape{r r':Nat}{f:Option (TypeId×Nat)→Sem α}{g:Option (TypeId×Nat)→Sem β}(h:ρ.rel r r')(hn:SRel p p' F P ρ (f none) (g none))
  (hk:∀ e n m,n=0∨n=m→SRel p p' F P ρ (f (some (e,n))) (g (some (e,m)))):SRel p p' F P ρ (shape r >>= f) (shape r' >>= g):=.shape h hn hk
theorem s_ite{c:Prop}[Decidable c]{s t:Sem α}{s' t':Sem β}(h:SRel p p' F P ρ s s')(k:SRel p p' F P ρ t t'):SRel p p' F P ρ (if c then s else t) (if c then s' else t'):=by
 split
 ·exact h
 ·exact k
theorem s_uns(u:Unsupported)(hu:∀ g,u≠.initOrder g)(s':Sem β):SRel p p' F P ρ (unsupported u:Sem α) s':=.unsupported hu
theorem s_unsB{γ:Type}(u:Unsupported)(hu:∀ g,u≠.initOrder g)(f:γ→Sem α)(s':Sem β):SRel p p' F P ρ ((unsupported u:Sem γ) >>= f) s':=.unsupported hu
theorem s_stk(why:String)(s':Sem β):SRel p p' F P ρ (Go.stuck why:Sem α) s':=.stuck
theorem s_stkB{γ:Type}(why:String)(f:γ→Sem α)(s':Sem β):SRel p p' F P ρ ((Go.stuck why:Sem γ) >>= f) s':=.stuck
theorem s_typeInfo(hT:TB p p' G)(t:TypeId):SRel p p' F (fun _ i j=>j=i∧p.info? t=some i) ρ (typeInfo t) (typeInfo t):=by
 unfold typeInfo
 refine .program ?_
 show SRel p p' F _ ρ (match p.info? t with | some i => pure i | none => stuck "no such type") (match p'.info? t with | some i => pure i | none => stuck "no such type")
 rw [info_same hT]
 cases h:p.info? t with
 | none=>exact .stuck
 | some i=>exact .pure ⟨rfl,rfl⟩
theorem sU(hT:TB p p' G)(t:TypeId):SRel p p' F (fun _ i j=>j=i∧p.underlying t=some i) ρ (underlying t) (underlying t):=by
 unfold underlying
 refine .program ?_
 show SRel p p' F _ ρ (match p.underlying t with | some i => pure i | none => stuck "no such type") (match p'.underlying t with | some i => pure i | none => stuck "no such type")
 rw [underlying_same hT]
 cases h:p.underlying t with
 | none=>exact .stuck
 | some i=>exact .pure ⟨rfl,rfl⟩
theorem s_sizeOf(hT:TB p p' G)(t:TypeId):SRel p p' F (fun _ i j=>j=i∧∃ d,p.info? t=some d∧d.size=i) ρ (sizeOf t) (sizeOf t):=by
 unfold sizeOf
 refine SRel.bind (s_typeInfo hT t) ?_
 rintro σ i j _ ⟨rfl,h⟩
 exact .pure ⟨rfl,_,h,rfl⟩
theorem s_isAgg(hT:TB p p' G)(t:TypeId):SRel p p' F (fun _ i j=>j=i) ρ (isAgg t) (isAgg t):=by
 unfold isAgg
 refine SRel.bind (sU hT t) ?_
 rintro σ i j _ ⟨rfl,h⟩
 cases j <;> exact .pure rfl
def zeroFlat(p:Program)(t:TypeId):Bool:=match p.info? t with
 | some i=>match i.zero with
  | some v=>flatV 3 v
  | none=>true
 | none=>true
theorem s_zeroValue(hT:TB p p' G)(t:TypeId)(hz:zeroFlat p t=true):SRel p p' F (fun _ i j=>j=i∧flatV 3 i=true) ρ (zeroValue t) (zeroValue t):=by
 unfold zeroValue
 refine SRel.bind (s_typeInfo hT t) ?_
 rintro σ i j _ ⟨rfl,h⟩
 cases hv:j.zero with
 | none=>exact .unsupported fun g q=>by cases q
 | some v =>
  refine .pure ⟨rfl,?_⟩
  simpa [zeroFlat,h,hv] using hz
theorem s_load{a b:Addr}(h:ARel ρ a b):SRel p p' F (fun σ x y=>VRel ρ F x y∧σ=ρ) ρ (load a) (load b):=.load h fun x y hv=>.pure ⟨hv,rfl⟩
theorem s_loadCellsFrom{a b:Addr}:∀ (n i:Nat) (xs ys:Array Value),ARel ρ a b→RW ρ F xs ys→SRel p p' F (fun σ x y=>RW σ F x y) ρ (loadCellsFrom a i n xs) (loadCellsFrom b i n ys)
 | 0,i,xs,ys,h,hr=>.pure hr
 | n+1,i,xs,ys,h,hr=>by
  unfold loadCellsFrom
  exact .load (h.add i) fun x y hv=>s_loadCellsFrom n (i+1) _ _ h (hr.push hv)
theorem s_loadCells{a b:Addr}(n:Nat)(h:ARel ρ a b):SRel p p' F (fun σ x y=>RW σ F x y) ρ (loadCells a n) (loadCells b n):=s_loadCellsFrom n 0 _ _ h RW.empty
inductive LRel (ρ:Ren G) (F:FuncId→Prop):List Value→List Value→Prop where
 | nil:LRel ρ F [] []
 | cons {x y:Value} {xs ys:List Value} (h:VRel ρ F x y) (k:LRel ρ F xs ys):LRel ρ F (x :: xs) (y :: ys)
theorem LRel.of{xs ys:List Value}(h:xs.length=ys.length)(k:∀ (i:Nat) (x y:Value),xs[i]? = some x→ys[i]? = some y→VRel ρ F x y):LRel ρ F xs ys:=by
 induction xs generalizing ys with
 | nil=>cases ys with
  | nil=>exact .nil
  | cons y ys=>simp at h
 | cons x xs ih=>cases ys with
  | nil=>simp at h
  | cons y ys=>exact .cons (k 0 x y rfl rfl) (ih (by simpa using h) fun i a b ha hb=>k (i+1) a b (by simpa using ha) (by simpa using hb))
theorem RW.toList{xs ys:Array Value}(h:RW ρ F xs ys):LRel ρ F xs.toList ys.toList :=
 .of (by simpa using h.size) fun i x y hx hy=>h.at_ i x y (by simpa using hx) (by simpa using hy)
theorem s_storeCells{a b:Addr}:∀ (xs ys:List Value) (i:Nat),ARel ρ a b→LRel ρ F xs ys→SRel p p' F (fun σ _ _=>σ=ρ) ρ (storeCells a xs i) (storeCells b ys i)
 | [],_,i,h,hr=>by cases hr;exact .pure rfl
 | x :: xs,_,i,h,hr=>by
  cases hr with
  | cons hv hk =>
   unfold storeCells
   exact .store (h.add i) hv (s_storeCells xs _ (i+1) h hk)
theorem s_loadVar(hT:TB p p' G)(t:TypeId){a b:Addr}(h:ARel ρ a b):SRel p p' F (fun σ x y=>VRel σ F x y) ρ (loadVar t a) (loadVar t b):=by
 unfold loadVar
 refine SRel.bind (s_isAgg hT t) ?_
 rintro σ i j hl rfl
 cases j with
 | true =>
  simp only [if_true]
  refine SRel.bind (s_sizeOf hT t) ?_
  rintro τ n m hm ⟨rfl,_⟩
  refine SRel.bind (s_loadCells m ((h.mono hl).mono hm)) ?_
  intro τ' xs ys _ hr
  exact .pure (.agg hr.size hr.at_)
 | false =>
  simp only [if_false,Bool.false_eq_true]
  exact(s_load (h.mono hl)).mono fun _ _ _ q=>by obtain⟨q,rfl⟩:=q;exact q
theorem s_storeVar(hT:TB p p' G)(t:TypeId){a b:Addr}{x y:Value}(h:ARel ρ a b)(hv:VRel ρ F x y):SRel p p' F (fun σ _ _=>True) ρ (storeVar t a x) (storeVar t b y):=by
 unfold storeVar
 refine SRel.bind (s_sizeOf hT t) ?_
 rintro σ n m hl ⟨rfl,_⟩
 have hc:=hv.cells
 rw [← hc.size]
 by_cases hs:x.cells.size=m
 ·simp only [hs,ne_eq,not_true_eq_false,if_false]
  exact(s_storeCells _ _ 0 (h.mono hl) (hc.mono hl).toList).mono fun _ _ _ _=>trivial
 ·simp only [ne_eq,hs,not_false_eq_true,if_true]
  exact .stuck
theorem s_newRow(e:TypeId){xs ys:Array Value}(h:RW ρ F xs ys):SRel p p' F (fun σ a b=>ARel σ a b) ρ (newRow e xs) (newRow e ys):=by
 unfold newRow newObj
 exact .new (.row (.inr ⟨h,fun i q1 q2=>⟨q1,q2⟩⟩)) fun σ b c _ hs=>.pure ⟨hs,rfl,rfl⟩
theorem s_newVar(t:TypeId){x y:Value}(h:VRel ρ F x y):SRel p p' F (fun σ a b=>ARel σ a b) ρ (newVar t x) (newVar t y):=s_newRow t h.cells
theorem s_part(hT:TB p p' G)(t:TypeId){xs ys:Array Value}(h:RW ρ F xs ys)(o:Nat):SRel p p' F (fun σ x y=>VRel σ F x y) ρ (part t xs o) (part t ys o):=by
 unfold part
 refine SRel.bind (s_isAgg hT t) ?_
 rintro σ i j hl rfl
 cases j with
 | true =>
  simp only [if_true]
  refine SRel.bind (s_sizeOf hT t) ?_
  rintro τ n m hm ⟨rfl,_⟩
  have:=((h.mono hl).mono hm).extract o (o+m)
  exact .pure (.agg this.size this.at_)
 | false =>
  simp only [if_false,Bool.false_eq_true]
  cases hx:xs[o]? with
  | none=>exact .stuck
  | some x =>
   obtain⟨y,hy,hv⟩:=h.get hx
   simp only [hy]
   exact .pure (hv.mono hl)
theorem rt_same(hT:TB p p' G):p'.rt=p.rt:=by rw [hT.eq]
def plainErr:RuntimeError→Bool
 | .bounds .. | .error _ | .plain _ | .nilDeref=>true
 | _=>false
theorem qP(hT:TB p p' G)(e:RuntimeError)(he:plainErr e=true):SRel p p' F P ρ (runtimePanic e) (runtimePanic e):=by
 unfold runtimePanic
 refine .program ?_
 cases e with
 | bounds x y s c =>
  show SRel p p' F P ρ (.halt (.panic (.iface p.rt.boundsError _))) (.halt (.panic (.iface p'.rt.boundsError _)))
  rw [rt_same hT]
  exact .panic (.iface _ hT.m1 (flat_rel 5 _ (by simp [flatV])))
 | error m =>
  show SRel p p' F P ρ (.halt (.panic (.iface p.rt.errorString _))) (.halt (.panic (.iface p'.rt.errorString _)))
  rw [rt_same hT]
  exact .panic (.iface _ hT.m2 (flat_rel 5 _ rfl))
 | plain m =>
  show SRel p p' F P ρ (.halt (.panic (.iface p.rt.plainError _))) (.halt (.panic (.iface p'.rt.plainError _)))
  rw [rt_same hT]
  exact .panic (.iface _ hT.m3 (flat_rel 5 _ rfl))
 | nilDeref =>
  show SRel p p' F P ρ (.halt (.panic (.iface p.rt.errorString _))) (.halt (.panic (.iface p'.rt.errorString _)))
  rw [rt_same hT]
  exact .panic (.iface _ hT.m2 (flat_rel 5 _ rfl))
 | typeAssertion=>cases he
 | panicNil=>cases he
 | unhashable=>cases he
theorem s_boundsPanic(hT:TB p p' G)(k:IntKind)(x y:Int)(c:BoundsCode):SRel p p' F P ρ (boundsPanic k x y c) (boundsPanic k x y c):=by
 unfold boundsPanic
 dsimp only
 split
 ·exact SRel.bind (P:=fun _ a b=>b=a) (.choose fun n=>.pure rfl) fun σ a b _ q=>by subst q;exact qP hT _ rfl
 ·exact SRel.bind (P:=fun _ a b=>b=a) (.pure rfl) fun σ a b _ q=>by subst q;exact qP hT _ rfl
theorem s_asIntOf{x y:Value}(h:VRel ρ F x y):SRel p p' F (fun _ a b=>b=a∧x=.int a.1 a.2∧y=x) ρ (asIntOf x) (asIntOf y):=by
 cases h <;> first | exact .pure ⟨rfl,rfl,rfl⟩ | exact .stuck | exact .unsupported fun g q=>by cases q
theorem s_asInt{x y:Value}(h:VRel ρ F x y):SRel p p' F (fun _ a b=>b=a) ρ (asInt x) (asInt y):=by
 unfold asInt
 refine SRel.bind (s_asIntOf h) ?_
 rintro σ a b _ ⟨rfl,_⟩
 exact .pure rfl
theorem s_asBool{x y:Value}(h:VRel ρ F x y):SRel p p' F (fun _ a b=>b=a) ρ (asBool x) (asBool y):=by
 cases h <;> first | exact .pure rfl | exact .stuck
theorem s_asAgg{x y:Value}(h:VRel ρ F x y):SRel p p' F (fun _ a b=>RW ρ F a b) ρ (asAgg x) (asAgg y):=by
 cases h <;> first | exact .pure ⟨by assumption,by assumption⟩ | exact .stuck
theorem s_sureAddr{x y:Value}(h:VRel ρ F x y):SRel p p' F (fun _ a b=>ARel ρ a b) ρ (Instr.sureAddr x) (Instr.sureAddr y):=by
 cases h <;> first | exact .pure (by assumption) | exact .stuck
theorem s_asAddr(hT:TB p p' G){x y:Value}(h:VRel ρ F x y):SRel p p' F (fun _ a b=>ARel ρ a b) ρ (asAddr x) (asAddr y):=by
 cases h <;> first | exact .pure (by assumption) | exact .stuck | exact qP hT .nilDeref rfl
end
end Go.Proofs.YtdoibgmmijhlfaaGreat.Sm
namespace Go.Proofs.YtdoibgmmijhlfaaGreat.Sm
open Go
set_option linter.unusedVariables false
section
variable {p p':Program}{F:FuncId→Prop}{G:Cx}{ρ:Ren G}{α β:Type}{P:Ren G→α→β→Prop}
theorem cellsOf_same(hT:TB p p' G)(t:TypeId):p'.cellsOf t=p.cellsOf t:=by
 unfold Program.cellsOf;rw [info_same hT]
theorem bytesOf_same(hT:TB p p' G)(t:TypeId):p'.bytesOf t=p.bytesOf t:=by
 unfold Program.bytesOf;rw [info_same hT]
theorem depth_same(hT:TB p p' G):p'.depth=p.depth:=by unfold Program.depth;rw [hT.eq]
theorem byteOfCell_same(hT:TB p p' G):∀ (d:Nat) (t:TypeId) (o:Nat),byteOfCell p' d t o=byteOfCell p d t o
 | 0,_,_=>rfl
 | d+1,t,o=>by
  unfold byteOfCell
  rw [underlying_same hT]
  split
  ·congr 1
   funext f
   rw [cellsOf_same hT,byteOfCell_same hT d]
  ·rw [cellsOf_same hT,bytesOf_same hT]
   simp only [byteOfCell_same hT d]
  ·rfl
theorem cellOfByte_same(hT:TB p p' G):∀ (d:Nat) (t:TypeId) (o:Nat),cellOfByte p' d t o=cellOfByte p d t o
 | 0,_,_=>rfl
 | d+1,t,o=>by
  unfold cellOfByte
  rw [underlying_same hT]
  split
  ·congr 1
   funext f
   rw [bytesOf_same hT,cellOfByte_same hT d]
  ·rw [cellsOf_same hT,bytesOf_same hT]
   simp only [cellOfByte_same hT d]
  ·rfl
theorem cellAtBytes_same(hT:TB p p' G)(d:Nat)(e:TypeId)(n o:Nat)(b:Int):cellAtBytes p' d e n o b=cellAtBytes p d e n o b:=by
 unfold cellAtBytes
 simp only [cellsOf_same hT,bytesOf_same hT,byteOfCell_same hT,cellOfByte_same hT]
theorem cellAtBytes_zero(d:Nat)(e:TypeId)(o:Nat)(b:Int):cellAtBytes p d e 0 o b=none:=by
 unfold cellAtBytes
 simp only [Option.bind_eq_bind,Nat.zero_mul]
 split
 ·rfl
 ·cases byteOfCell p d e (o % p.cellsOf e) with
  | none=>rfl
  | some x =>
   simp only [Option.bind_some]
   split
   ·rfl
   ·rename_i h
    simp only [Bool.or_eq_true,decide_eq_true_eq,not_or] at h
    have h1:=h.1
    have h2:=h.2
    simp only [Int.ofNat_eq_natCast,Int.natCast_zero] at h1 h2
    omega
def NumRel(ρ:Ren G)(x y:Option (Addr×Bool)):Prop:=(x=none∧y=none)∨∃ a b l,x=some (a,l)∧y=some (b,l)∧ARel ρ a b
theorem s_numberAt{r r':Nat}(h:ρ.rel r r'):SRel p p' F (fun _ x y=>NumRel ρ x y) ρ (numberAt r) (numberAt r'):=by
 unfold numberAt
 refine .shape h ?_ fun e n m _=>.pure (.inl ⟨rfl,rfl⟩)
 exact .getNum h fun a b n q=>.pure (.inr ⟨a,b,n,rfl,rfl,q⟩)
theorem s_viewAt{r r':Nat}(h:ρ.rel r r'):SRel p p' F (fun _ x y=>x=none∧y=none) ρ (viewAt r) (viewAt r'):=by
 unfold viewAt
 refine .shape h ?_ fun e n m _=>.pure ⟨rfl,rfl⟩
 exact .getNum h fun a b n q=>.pure ⟨rfl,rfl⟩
theorem s_noView{a b:Addr}(h:ARel ρ a b):SRel p p' F (fun _ _ _=>True) ρ (noView a) (noView b):=by
 unfold noView
 refine SRel.bind (s_viewAt h.blk) ?_
 rintro σ x y _ ⟨rfl,rfl⟩
 exact .pure trivial
theorem s_behindNumber{a b:Addr}(h:ARel ρ a b):SRel p p' F (fun _ x y=>ARel ρ x.1 y.1∧y.2=x.2) ρ (behindNumber a) (behindNumber b):=by
 unfold behindNumber
 refine SRel.bind (s_numberAt h.blk) ?_
 rintro σ x y _ (⟨rfl,rfl⟩ | ⟨c,d,l,rfl,rfl,hr⟩)
 ·exact .pure ⟨h,rfl⟩
 ·exact .pure ⟨hr,rfl⟩
theorem s_byteOf(hT:TB p p' G){a b:Addr}(h:ARel ρ a b):SRel p p' F (fun _ x y=>y=x) ρ (byteOf a) (byteOf b):=by
 unfold byteOf
 rw [h.spot]
 cases a.spot with
 | some s=>exact .pure rfl
 | none =>
  refine s_withProg ?_
  dsimp only
  refine SRel.bind (s_noView h) ?_
  rintro σ x y hl _
  refine s_withShape (hl _ _ h.blk) (s_stk _ _) fun e n m _=>?_
  simp only [cellsOf_same hT,bytesOf_same hT,byteOfCell_same hT,depth_same hT,h.off]
  split
  ·exact .pure rfl
  ·split
   ·exact .pure rfl
   ·exact s_stk _ _
theorem s_unsafeAdd(hT:TB p p' G)(ts:Array TypeId)(t:TypeId){a b:Addr}(h:ARel ρ a b){x y:Value}(hv:VRel ρ F x y) :
  SRel p p' F (fun σ x y=>∃ c d,x=.pointer (some c)∧y=.pointer (some d)∧ARel σ c d) ρ (Builtin.unsafeAdd_ ts t #[.pointer (some a),x]) (Builtin.unsafeAdd_ ts t #[.pointer (some b),y]):=by
 unfold Builtin.unsafeAdd_
 refine SRel.bind (s_asInt hv) ?_
 rintro σ n m hl rfl
 by_cases h0:m=0
 ·simp only [h0,if_true]
  refine SRel.bind (s_viewAt (hl _ _ h.blk)) ?_
  rintro τ u v hm ⟨rfl,rfl⟩
  exact .pure ⟨_,_,rfl,rfl,(h.mono hl).mono hm⟩
 ·simp only [h0,if_false]
  by_cases h1:m<0
  ·simp only [h1,if_true];exact .unsupported fun g q=>by cases q
  ·simp only [h1,if_false]
   refine s_withShape (hl _ _ h.blk) (s_uns _ (fun g q=>by cases q) _) fun e i j hij=>?_
   refine s_withProg ?_
   rw [cellAtBytes_same hT,cellsOf_same hT,depth_same hT,h.off]
   rcases hij with rfl | rfl
   ·rw [Nat.zero_div,cellAtBytes_zero]
    exact .unsupported fun g q=>by cases q
   ·cases cellAtBytes p p.depth e (i / p.cellsOf e) a.off m with
    | none=>exact .unsupported fun g q=>by cases q
    | some o=>exact .pure ⟨_,_,rfl,rfl,hl _ _ h.blk,rfl,h.spot⟩
theorem s_asNumber{a b:Addr}(h:ARel ρ a b)(l:Bool):SRel p p' F (fun σ x y=>VRel σ F x y) ρ (asNumber a l) (asNumber b l):=by
 unfold asNumber newObj
 exact .new (.number h) fun σ b c _ hs=>.pure (.ptr ⟨hs,rfl,rfl⟩)
theorem s_twoPlaces(hT:TB p p' G)(hG:p.globals.size=G.glob){a b c d:Addr}(h:ARel ρ a b)(k:ARel ρ c d):SRel p p' F (fun _ x y=>y=x) ρ (Op.twoPlaces a c) (Op.twoPlaces b d):=by
 unfold Op.twoPlaces
 refine .program ?_
 show SRel p p' F _ ρ (if (a.block != c.block || decide (a.block ≥ p.globals.size))=true then unsupported .addressObserved else do pure (← byteOf a,← byteOf c))
  (if (b.block != d.block || decide (b.block ≥ p'.globals.size))=true then unsupported .addressObserved else do pure (← byteOf b,← byteOf d))
 rw [show p'.globals=p.globals from by rw [hT.eq],hG]
 by_cases h1:(a.block != c.block || decide (a.block ≥ G.glob))=true
 ·rw [if_pos h1];exact .unsupported fun g q=>by cases q
 ·have h2:a.block=c.block∧a.block<G.glob:=by simpa [bne_iff_ne] using h1
  have h3:b.block=d.block:=ρ.fn _ _ _ h.blk (by rw [h2.1];exact k.blk)
  have h4:b.block<G.glob:=ρ.glob _ _ h.blk h2.2
  have h5:¬ (b.block != d.block || decide (b.block ≥ G.glob))=true:=by simp [h3];omega
  rw [if_neg h1,if_neg h5]
  refine SRel.bind (s_byteOf hT h) ?_
  rintro σ x y hl rfl
  refine SRel.bind (s_byteOf hT (k.mono hl)) ?_
  rintro τ u v _ rfl
  exact .pure rfl
theorem s_addrSub(hT:TB p p' G)(hG:p.globals.size=G.glob)(k:IntKind){a b c d:Addr}(h:ARel ρ a b)(l:ARel ρ c d):SRel p p' F (fun σ x y=>VRel σ F x y) ρ (Op.addrSub k a c) (Op.addrSub k b d):=by
 unfold Op.addrSub
 refine SRel.bind (s_twoPlaces hT hG h l) ?_
 rintro σ x y _ rfl
 exact .pure (.int _ _)
theorem s_addrCmp(hT:TB p p' G)(hG:p.globals.size=G.glob)(op:BinOp){a b c d:Addr}(h:ARel ρ a b)(l:ARel ρ c d):SRel p p' F (fun σ x y=>VRel σ F x y) ρ (Op.addrCmp op a c) (Op.addrCmp op b d):=by
 unfold Op.addrCmp
 refine SRel.bind (s_twoPlaces hT hG h l) ?_
 rintro σ x y _ rfl
 cases op <;> first | exact .pure (.bool _) | exact .unsupported fun g q=>by cases q
theorem s_addrMod(hT:TB p p' G)(k:IntKind)(n:Int){a b:Addr}(h:ARel ρ a b):SRel p p' F (fun σ x y=>VRel σ F x y) ρ (Op.addrMod k a n) (Op.addrMod k b n):=by
 unfold Op.addrMod
 refine s_withShape h.blk (s_uns _ (fun g q=>by cases q) _) fun e i j _=>?_
 refine SRel.bind (s_typeInfo hT e) ?_
 rintro σ x y hl ⟨rfl,_⟩
 dsimp only
 split
 ·exact s_unsB _ (fun g q=>by cases q) _ _
 ·refine SRel.bind (s_byteOf hT (h.mono hl)) ?_
  rintro τ u v _ rfl
  exact .pure (.int _ _)
theorem s_movedNumber(hT:TB p p' G)(t:TypeId){a b:Addr}(h:ARel ρ a b){x y:Value}(hv:VRel ρ F x y):SRel p p' F (fun σ x y=>VRel σ F x y) ρ (movedNumber t (.pointer (some a)) x) (movedNumber t (.pointer (some b)) y):=by
 unfold movedNumber
 refine SRel.bind (sU hT t) ?_
 rintro σ i j hl ⟨rfl,_⟩
 dsimp only
 split
 ·exact s_unsB _ (fun g q=>by cases q) _ _
 ·refine SRel.bind (s_behindNumber (h.mono hl)) ?_
  rintro τ ⟨c,n⟩ ⟨d,m⟩ hm ⟨hr,hn⟩
  simp only at hr hn
  subst hn
  refine SRel.bind (s_unsafeAdd hT #[] t (hr.mono hm) ((hv.mono hl).mono hm)) ?_
  rintro τ' u v _ ⟨e,f,rfl,rfl,hu⟩
  exact s_asNumber hu _
end
end Go.Proofs.YtdoibgmmijhlfaaGreat.Sm
namespace Go.Proofs.YtdoibgmmijhlfaaGreat.Sm
open Go
set_option linter.unusedVariables false
section
variable {p p':Program}{F:FuncId→Prop}{G:Cx}{ρ:Ren G}{α β:Type}{P:Ren G→α→β→Prop}
theorem s_foldlM{γ:Type}{R:Ren G→α→β→Prop}{f:α→γ→Sem α}{g:β→γ→Sem β}(hf:∀ (σ:Ren G) (x:γ) (a:α) (b:β),Ren.le ρ σ→R σ a b→SRel p p' F R σ (f a x) (g b x)) :
    ∀ (l:List γ) (σ:Ren G) (a:α) (b:β),Ren.le ρ σ→R σ a b→SRel p p' F R σ (l.foldlM f a) (l.foldlM g b)
  | [],σ,a,b,hl,h=>.pure h
  | x :: l,σ,a,b,hl,h=>by
    rw [List.foldlM_cons,List.foldlM_cons]
    exact SRel.bind (hf σ x a b hl h) fun τ c d hm hr=>s_foldlM hf l τ c d (Ren.le_trans hl hm) hr
theorem s_mapM_same{γ δ:Type}{f:γ→Sem δ}(hf:∀ (σ:Ren G) (x:γ),SRel p p' F (fun _ a b=>b=a) σ (f x) (f x))(l:Array γ):SRel p p' F (fun _ a b=>b=a) ρ (l.mapM f) (l.mapM f):=by
  rw [Array.mapM_eq_foldlM,← Array.foldlM_toList]
  refine s_foldlM (ρ:=ρ) (R:=fun _ a b=>b=a) ?_ _ _ _ _ (Ren.le_refl _) rfl
  rintro σ x a b _ rfl
  exact SRel.bind (hf σ x) fun τ c d _ q=>by subst q;exact .pure rfl
theorem flat_cells{v:Value}{d:Nat}(h:flatV (d+1) v=true):∀ x∈v.cells,VRel ρ F x x:=by
  intro x hx
  cases v with
  | agg cs =>
    simp only [flatV] at h
    exact flat_rel d x (Array.all_eq_true_iff_forall_mem.1 h x hx)
  | _=>simp only [Value.cells,List.mem_toArray,List.mem_singleton] at hx;subst hx;exact flat_rel _ _ h
theorem zero_row{zc:Array Value}(h:∀ x∈zc,VRel ρ F x x)(l:Array Nat):RW ρ F (l.map (zc[· % zc.size]!)) (l.map (zc[· % zc.size]!)):=by
  refine RW.map l fun i _=>?_
  rw [getElem!_def]
  cases hx:zc[i % zc.size]? with
  | none=>exact .bool _
  | some v=>exact h v (Array.mem_of_getElem? hx)
theorem row_self{zc:Array Value}(h:∀ x∈zc,VRel ρ F x x):RW ρ F zc zc:=⟨rfl,fun i x y hx hy=>by rw [hx] at hy;cases hy;exact h x (Array.mem_of_getElem? hx)⟩
theorem s_alloc(hT:TB p p' G)(t:TypeId)(hz:zeroFlat p t=true):SRel p p' F (fun σ x y=>VRel σ F x y) ρ (Instr.alloc t true (.tuple #[])) (Instr.alloc t true (.tuple #[])):=by
  unfold Instr.alloc
  refine SRel.bind (s_zeroValue hT t hz) ?_
  rintro σ x y hl ⟨rfl,h⟩
  refine SRel.bind (s_newVar t (flat_rel 3 _ h)) ?_
  intro τ a b _ hr
  exact .pure (.ptr hr)
theorem s_box(t:TypeId){x y:Value}(h:VRel ρ F x y):SRel p p' F (fun σ x y=>VRel σ F x y) ρ (Instr.box t x) (Instr.box t y):=by
  unfold Instr.box
  refine SRel.bind (s_newVar t h) ?_
  intro τ a b _ hr
  exact .pure (.ptr hr)
inductive PartsRel (ρ:Ren G) (F:FuncId→Prop):List (Nat×Value)→List (Nat×Value)→Prop where
  | nil:PartsRel ρ F [] []
  | cons (i:Nat) {x y:Value} {xs ys:List (Nat×Value)} (h:VRel ρ F x y) (k:PartsRel ρ F xs ys):PartsRel ρ F ((i,x) :: xs) ((i,y) :: ys)
theorem PartsRel.mono{σ:Ren G}{xs ys:List (Nat×Value)}(h:PartsRel ρ F xs ys)(k:Ren.le ρ σ):PartsRel σ F xs ys:=by
  induction h with
  | nil=>exact .nil
  | cons i h _ ih=>exact .cons i (h.mono k) ih
theorem fillOne(off:Nat){l l':List Value}(h:LRel ρ F l l'):∀ (k:Nat) {xs ys:Array Value},RW ρ F xs ys →
    RW ρ F ((l.zipIdx k).foldl (fun cs (c,j)=>cs.setIfInBounds (off+j) c) xs) ((l'.zipIdx k).foldl (fun cs (c,j)=>cs.setIfInBounds (off+j) c) ys):=by
  induction h with
  | nil=>intro k xs ys hr;exact hr
  | cons hv _ ih =>
    intro k xs ys hr
    simp only [List.zipIdx_cons,List.foldl_cons]
    exact ih (k+1) (hr.set _ hv)
theorem fill_rel(place:Nat→Option (Nat×Nat)){ps qs:List (Nat×Value)}(h:PartsRel ρ F ps qs):∀ {xs ys:Array Value},RW ρ F xs ys →
    (Instr.fill place xs ps=none∧Instr.fill place ys qs=none)∨∃ us vs,Instr.fill place xs ps=some us∧Instr.fill place ys qs=some vs∧RW ρ F us vs:=by
  induction h with
  | nil=>intro xs ys hr;exact .inr ⟨xs,ys,rfl,rfl,hr⟩
  | @cons i x y ps qs hv _ ih =>
    intro xs ys hr
    unfold Instr.fill
    cases place i with
    | none=>exact .inl ⟨rfl,rfl⟩
    | some os =>
      obtain⟨o,s⟩:=os
      simp only
      have hc:=hv.cells
      rw [← hc.size,← hr.size]
      split
      · exact .inl ⟨rfl,rfl⟩
      · refine ih ?_
        rw [← Array.foldl_toList,← Array.foldl_toList,Array.toList_zipIdx,Array.toList_zipIdx]
        exact fillOne o hc.toList 0 hr
theorem s_build(hT:TB p p' G)(t:TypeId)(hz:zeroFlat p t=true){ps qs:Array (Nat×Value)}(h:PartsRel ρ F ps.toList qs.toList) :
    SRel p p' F (fun σ x y=>VRel σ F x y) ρ (Instr.build t ps) (Instr.build t qs):=by
  unfold Instr.build
  refine SRel.bind (s_zeroValue hT t hz) ?_
  rintro σ x y hl ⟨rfl,hf⟩
  dsimp only
  refine SRel.bind (sU hT t) ?_
  rintro τ i j hm ⟨rfl,_⟩
  have hq1:=(h.mono hl).mono hm
  have hx:RW τ F y.cells y.cells:=row_self (flat_cells hf)
  split
  · rename_i fields
    refine SRel.bind (P:=fun _ a b=>b=a) ?_ ?_
    · refine s_mapM_same (fun σ f=>?_) _
      refine SRel.bind (s_sizeOf hT f.type) ?_
      rintro _ n m _ ⟨rfl,_⟩
      exact .pure rfl
    · rintro τ' a b hm' rfl
      rcases fill_rel (b[·]?) (hq1.mono hm') (hx.mono hm') with ⟨e1,e2⟩ | ⟨us,vs,e1,e2,hr⟩
      · rw [e1,e2];exact s_stk _ _
      · rw [e1,e2];exact .pure (.agg hr.size hr.at_)
  · rename_i len elem hq
    refine SRel.bind (s_sizeOf hT elem) ?_
    rintro τ' n m hm' ⟨rfl,_⟩
    rcases fill_rel (fun i=>some (i * m,m)) (hq1.mono hm') (hx.mono hm') with ⟨e1,e2⟩ | ⟨us,vs,e1,e2,hr⟩
    · rw [e1,e2];exact s_stk _ _
    · rw [e1,e2];exact .pure (.agg hr.size hr.at_)
  · exact s_stk _ _
def elemFlat(p:Program)(t:TypeId):Bool:=match p.underlying t with
  | some (.slice e)=>zeroFlat p e
  | _=>true
theorem s_buildSlice(hT:TB p p' G)(t:TypeId)(hz:elemFlat p t=true)(n:Nat){ps qs:Array (Nat×Value)}(h:PartsRel ρ F ps.toList qs.toList) :
    SRel p p' F (fun σ x y=>VRel σ F x y) ρ (Instr.buildSlice t n ps) (Instr.buildSlice t n qs):=by
  unfold Instr.buildSlice
  refine SRel.bind (sU hT t) ?_
  rintro σ i j hl ⟨rfl,hu⟩
  cases j with
  | slice elem =>
    have hz':zeroFlat p elem=true:=by simpa [elemFlat,hu] using hz
    dsimp only
    refine SRel.bind (s_sizeOf hT elem) ?_
    rintro τ a s hm ⟨rfl,_⟩
    by_cases hb:n * s > 2 ^ 24
    · rw [if_pos hb,if_pos hb];exact s_unsB _ (fun g q=>by cases q) _ _
    · rw [if_neg hb,if_neg hb]
      by_cases h0:n * s=0
      · rw [if_pos h0,if_pos h0]
        refine SRel.bind (P:=fun σ a b=>b=a∧∀ x∈a,VRel σ F x x) (.pure ⟨rfl,by simp⟩) ?_
        rintro τ' zc zc' hm' ⟨rfl,hzc⟩
        rcases fill_rel (fun i=>some (i * s,s)) (((h.mono hl).mono hm).mono hm') (zero_row hzc (Array.range (n * s))) with ⟨e1,e2⟩ | ⟨us,vs,e1,e2,hr⟩
        · rw [e1,e2];exact s_stk _ _
        · rw [e1,e2]
          refine SRel.bind (s_newRow elem hr) ?_
          intro _ a b _ ha
          exact .pure (.sl _ _ ha)
      · rw [if_neg h0,if_neg h0]
        refine SRel.bind (s_zeroValue hT elem hz') ?_
        rintro τ₀ x y hm₀ ⟨rfl,hf⟩
        refine SRel.bind (P:=fun σ a b=>b=a∧∀ x∈a,VRel σ F x x) (.pure ⟨rfl,flat_cells hf⟩) ?_
        rintro τ' zc zc' hm' ⟨rfl,hzc⟩
        rcases fill_rel (fun i=>some (i * s,s)) ((((h.mono hl).mono hm).mono hm₀).mono hm') (zero_row hzc (Array.range (n * s))) with ⟨e1,e2⟩ | ⟨us,vs,e1,e2,hr⟩
        · rw [e1,e2];exact s_stk _ _
        · rw [e1,e2]
          refine SRel.bind (s_newRow elem hr) ?_
          intro _ a b _ ha
          exact .pure (.sl _ _ ha)
  | _=>exact s_stk _ _
theorem s_field(hT:TB p p' G)(t:TypeId){x y:Value}(h:VRel ρ F x y)(i:Nat):SRel p p' F (fun σ x y=>VRel σ F x y) ρ (Instr.field t x i) (Instr.field t y i):=by
  unfold Instr.field
  refine SRel.bind (sU hT t) ?_
  rintro σ d j hl ⟨rfl,hu⟩
  cases j with
  | struct fs =>
    dsimp only
    cases fs[i]? with
    | none=>exact s_stk _ _
    | some f =>
      refine SRel.bind (s_asAgg (h.mono hl)) ?_
      intro τ a b hm hr
      exact s_part hT f.type (hr.mono hm) f.offset
  | _=>exact s_stk _ _
theorem s_index(hT:TB p p' G)(t:TypeId){x y u v:Value}(h:VRel ρ F x y)(k:VRel ρ F u v):SRel p p' F (fun σ x y=>VRel σ F x y) ρ (Instr.index t x u) (Instr.index t y v):=by
  unfold Instr.index
  refine SRel.bind (s_asIntOf k) ?_
  rintro σ ⟨ki,i⟩ b hl ⟨rfl,_,_⟩
  dsimp only
  refine SRel.bind (sU hT t) ?_
  rintro τ d j hm ⟨rfl,hu⟩
  have hx:=(h.mono hl).mono hm
  cases j <;> cases hx <;> first
    | exact s_stk _ _
    | (dsimp only
       split
       · exact .pure (.int _ _)
       · exact s_boundsPanic hT _ _ _ _)
    | (dsimp only
       split
       · refine SRel.bind (s_sizeOf hT _) ?_
         rintro τ' n m hm' ⟨rfl,_⟩
         exact s_part hT _ (RW.mono ⟨by assumption,by assumption⟩ hm') _
       · exact s_boundsPanic hT _ _ _ _)
def idxTail(why:String)(t:TypeId)(ki:IntKind)(i:Int)(o:Option Addr×Nat×TypeId):Sem Value:=do
  let d ← underlying t
  match o.1 with
  | some a =>
    if 0≤i∧i<o.2.1 then do
      let s ← sizeOf o.2.2
      pure (.pointer (some (a.add (i.toNat * s))))
    else if (decide (o.2.1≤1) && match d with | .array _ _=>true | _=>false)=true then
      unsupported (.noEntry why)
    else boundsPanic ki i o.2.1 .index
  | none=>boundsPanic ki i 0 .index
theorem idx_tail(hT:TB p p' G)(why:String)(t:TypeId)(ki:IntKind)(i:Int){a b:Option Addr}(len:Nat)(elem:TypeId)(h:(a=none∧b=none)∨(∃ c d,a=some c∧b=some d∧(ARel ρ c d∨len=0))) :
    SRel p p' F (fun σ x y=>VRel σ F x y) ρ (idxTail why t ki i (a,len,elem)) (idxTail why t ki i (b,len,elem)):=by
  unfold idxTail
  refine SRel.bind (sU hT t) ?_
  rintro σ d j hl ⟨rfl,_⟩
  dsimp only
  rcases h with ⟨rfl,rfl⟩ | ⟨c,d,rfl,rfl,hr⟩
  · exact s_boundsPanic hT _ _ _ _
  · rcases hr with hr | rfl
    · refine s_ite ?_ (s_ite (s_uns _ (fun g q=>by cases q) _) (s_boundsPanic hT _ _ _ _))
      refine SRel.bind (s_sizeOf hT _) ?_
      rintro τ n m hm ⟨rfl,_⟩
      exact .pure (.ptr (((hr.mono hl).mono hm).add _))
    · have h0:¬ (0≤i∧i<((0:Nat):Int)):=by omega
      simp only [if_neg h0]
      exact s_ite (s_uns _ (fun g q=>by cases q) _) (s_boundsPanic hT _ _ _ _)
theorem s_indexAt(hT:TB p p' G)(t:TypeId){x y u v:Value}(h:VRel ρ F x y)(k:VRel ρ F u v):SRel p p' F (fun σ x y=>VRel σ F x y) ρ (Instr.indexAt t x u) (Instr.indexAt t y v):=by
  unfold Instr.indexAt
  refine SRel.bind (s_asIntOf k) ?_
  rintro σ ⟨ki,i⟩ b hl ⟨rfl,_,_⟩
  dsimp only
  refine SRel.bind (sU hT t) ?_
  rintro τ d j hm ⟨rfl,hu⟩
  have hx:=(h.mono hl).mono hm
  have tl:∀ {τ':Ren G} {a b:Option Addr} (why:String) (len:Nat) (elem:TypeId),(a=none∧b=none)∨(∃ c d,a=some c∧b=some d∧(ARel τ' c d∨len=0))→SRel p p' F (fun σ x y=>VRel σ F x y) τ' (idxTail why t ki i (a,len,elem)) (idxTail why t ki i (b,len,elem)):=fun why len elem q=>idx_tail hT why t ki i len elem q
  cases j with
  | array len elem =>
    refine SRel.bind (s_sureAddr hx) ?_
    intro τ' a b hm' ha
    exact tl _ len elem (.inr ⟨a,b,rfl,rfl,.inl (ha.mono hm')⟩)
  | slice elem =>
    cases hx with
    | sl0 n c => exact tl "" n elem (.inl ⟨rfl, rfl⟩)
    | sl n c ha=>exact tl _ n elem (.inr ⟨_,_,rfl,rfl,.inl ha⟩)
    | slz b=>exact tl _ 0 elem (.inr ⟨_,_,rfl,rfl,.inr rfl⟩)
    | _=>exact s_stkB _ _ _
  | _=>exact s_stkB _ _ _
theorem s_sliceBoundLe(hT:TB p p' G){x y:Value}(h:VRel ρ F x y)(n:Nat)(c:BoundsCode):SRel p p' F (fun _ a b=>b=a∧a≤n) ρ (Instr.sliceBound x n c) (Instr.sliceBound y n c):=by
  unfold Instr.sliceBound
  refine SRel.bind (s_asIntOf h) ?_
  rintro σ ⟨k,i⟩ b hl ⟨rfl,_,_⟩
  dsimp only
  split
  · rename_i q;exact .pure ⟨rfl,by have:=q.1;have:=q.2;simp only at *;omega⟩
  · exact s_boundsPanic hT _ _ _ _
theorem s_sliceBound(hT:TB p p' G){x y:Value}(h:VRel ρ F x y)(n:Nat)(c:BoundsCode):SRel p p' F (fun _ a b=>b=a) ρ (Instr.sliceBound x n c) (Instr.sliceBound y n c):=by
  unfold Instr.sliceBound
  refine SRel.bind (s_asIntOf h) ?_
  rintro σ ⟨k,i⟩ b hl ⟨rfl,_,_⟩
  dsimp only
  split
  · exact .pure rfl
  · exact s_boundsPanic hT _ _ _ _
def OptRel(ρ:Ren G)(F:FuncId→Prop)(x y:Option Value):Prop:=(x=none∧y=none)∨∃ u v,x=some u∧y=some v∧VRel ρ F u v
theorem OptRel.mono{σ:Ren G}{x y:Option Value}(h:OptRel ρ F x y)(k:Ren.le ρ σ):OptRel σ F x y:=h.imp id fun ⟨u,v,a,b,c⟩=>⟨u,v,a,b,c.mono k⟩
theorem OptRel.isSome{x y:Option Value}(h:OptRel ρ F x y):y.isSome=x.isSome:=by
  rcases h with ⟨rfl,rfl⟩ | ⟨u,v,rfl,rfl,_⟩ <;> rfl
theorem s_sliceBounds(hT:TB p p' G)(s:Bool)(n c:Nat){l l' h h' m m':Option Value}(hl:OptRel ρ F l l')(hh:OptRel ρ F h h')(hm:OptRel ρ F m m') :
    SRel p p' F (fun _ a b=>b=a) ρ (Instr.sliceBounds s n c l h m) (Instr.sliceBounds s n c l' h' m'):=by
  unfold Instr.sliceBounds
  rcases hm with ⟨rfl,rfl⟩ | ⟨u,v,rfl,rfl,hv⟩
  · refine SRel.bind (P:=fun _ a b=>b=a) (.pure rfl) ?_
    rintro σ a b hσ rfl
    rcases hh with ⟨rfl,rfl⟩ | ⟨u,v,rfl,rfl,hv⟩
    · refine SRel.bind (P:=fun _ a b=>b=a) (.pure rfl) ?_
      rintro τ c d hτ rfl
      dsimp only
      rcases hl with ⟨rfl,rfl⟩ | ⟨u,v,rfl,rfl,hv⟩
      · exact .pure rfl
      · refine SRel.bind (s_sliceBound hT ((hv.mono hσ).mono hτ) _ _) ?_
        rintro _ x y _ rfl
        exact .pure rfl
    · refine SRel.bind (s_sliceBound hT (hv.mono hσ) _ _) ?_
      rintro τ c d hτ rfl
      dsimp only
      rcases hl with ⟨rfl,rfl⟩ | ⟨u,v,rfl,rfl,hv⟩
      · exact .pure rfl
      · refine SRel.bind (s_sliceBound hT ((hv.mono hσ).mono hτ) _ _) ?_
        rintro _ x y _ rfl
        exact .pure rfl
  · refine SRel.bind (s_sliceBound hT hv _ _) ?_
    rintro σ a b hσ rfl
    rcases hh with ⟨rfl,rfl⟩ | ⟨u,v,rfl,rfl,hv⟩
    · exact s_stkB _ _ _
    · refine SRel.bind (s_sliceBound hT (hv.mono hσ) _ _) ?_
      rintro τ c d hτ rfl
      dsimp only
      rcases hl with ⟨rfl,rfl⟩ | ⟨u,v,rfl,rfl,hv⟩
      · exact .pure rfl
      · refine SRel.bind (s_sliceBound hT ((hv.mono hσ).mono hτ) _ _) ?_
        rintro _ x y _ rfl
        exact .pure rfl
theorem s_sliceBounds0(hT:TB p p' G){l l' h h' m m':Option Value}(hl:OptRel ρ F l l')(hh:OptRel ρ F h h')(hm:OptRel ρ F m m') :
    SRel p p' F (fun _ a b=>b=a∧a=(0,0,0)) ρ (Instr.sliceBounds true 0 0 l h m) (Instr.sliceBounds true 0 0 l' h' m'):=by
  unfold Instr.sliceBounds
  rcases hm with ⟨rfl,rfl⟩ | ⟨u,v,rfl,rfl,hv⟩
  · refine SRel.bind (P:=fun _ a b=>b=a∧a=0) (.pure ⟨rfl,rfl⟩) ?_
    rintro σ a b hσ ⟨rfl,rfl⟩
    rcases hh with ⟨rfl,rfl⟩ | ⟨u,v,rfl,rfl,hv⟩
    · refine SRel.bind (P:=fun _ a b=>b=a∧a=0) (.pure ⟨rfl,rfl⟩) ?_
      rintro τ c d hτ ⟨rfl,rfl⟩
      dsimp only
      rcases hl with ⟨rfl,rfl⟩ | ⟨u,v,rfl,rfl,hv⟩
      · exact .pure ⟨rfl,rfl⟩
      · refine SRel.bind (s_sliceBoundLe hT ((hv.mono hσ).mono hτ) _ _) ?_
        rintro _ x y _ ⟨rfl,q⟩
        exact .pure ⟨rfl,by rw [Nat.le_zero.1 q]⟩
    · refine SRel.bind ((s_sliceBoundLe hT (hv.mono hσ) _ _).mono (R:=fun _ a b=>b=a∧a=0) fun _ a b q=>⟨q.1,Nat.le_zero.1 q.2⟩) ?_
      rintro τ c d hτ ⟨rfl,rfl⟩
      dsimp only
      rcases hl with ⟨rfl,rfl⟩ | ⟨u,v,rfl,rfl,hv⟩
      · exact .pure ⟨rfl,rfl⟩
      · refine SRel.bind (s_sliceBoundLe hT ((hv.mono hσ).mono hτ) _ _) ?_
        rintro _ x y _ ⟨rfl,q⟩
        exact .pure ⟨rfl,by rw [Nat.le_zero.1 q]⟩
  · refine SRel.bind ((s_sliceBoundLe hT hv _ _).mono (R:=fun _ a b=>b=a∧a=0) fun _ a b q=>⟨q.1,Nat.le_zero.1 q.2⟩) ?_
    rintro σ a b hσ ⟨rfl,rfl⟩
    rcases hh with ⟨rfl,rfl⟩ | ⟨u,v,rfl,rfl,hv⟩
    · exact s_stkB _ _ _
    · refine SRel.bind ((s_sliceBoundLe hT (hv.mono hσ) _ _).mono (R:=fun _ a b=>b=a∧a=0) fun _ a b q=>⟨q.1,Nat.le_zero.1 q.2⟩) ?_
      rintro τ c d hτ ⟨rfl,rfl⟩
      dsimp only
      rcases hl with ⟨rfl,rfl⟩ | ⟨u,v,rfl,rfl,hv⟩
      · exact .pure ⟨rfl,rfl⟩
      · refine SRel.bind (s_sliceBoundLe hT ((hv.mono hσ).mono hτ) _ _) ?_
        rintro _ x y _ ⟨rfl,q⟩
        exact .pure ⟨rfl,by rw [Nat.le_zero.1 q]⟩
end
end Go.Proofs.YtdoibgmmijhlfaaGreat.Sm
namespace Go.Proofs.YtdoibgmmijhlfaaGreat.Sm
open Go
set_option linter.unusedVariables false
section
variable {p p':Program}{F:FuncId→Prop}{G:Cx}{ρ:Ren G}{α β:Type}{P:Ren G→α→β→Prop}
theorem ARel.iteAdd{a b:Addr}(h:ARel ρ a b)(c:Prop)[Decidable c](n:Nat):ARel ρ (if c then a else a.add n) (if c then b else b.add n):=by
 split
 ·exact h
 ·exact h.add n
theorem s_slice(hT:TB p p' G)(t:TypeId){x y:Value}(h:VRel ρ F x y){l l' i i' m m':Option Value}(hl:OptRel ρ F l l')(hi:OptRel ρ F i i')(hm:OptRel ρ F m m') :
  SRel p p' F (fun σ x y=>VRel σ F x y) ρ (Instr.slice t x l i m) (Instr.slice t y l' i' m'):=by
 unfold Instr.slice
 refine SRel.bind (sU hT t) ?_
 rintro σ d j hσ ⟨rfl,hu⟩
 have hx:=h.mono hσ
 have hl':=hl.mono hσ
 have hi':=hi.mono hσ
 have hm':=hm.mono hσ
 cases j with
 | string =>
  cases hx with
  | string s =>
   dsimp only
   rw [hm'.isSome]
   refine s_ite (s_stkB _ _ _) ?_
   refine SRel.bind (s_sliceBounds hT _ _ _ hl' hi' (.inl ⟨rfl,rfl⟩)) ?_
   rintro τ a b _ rfl
   exact .pure (.string _)
  | _=>exact s_stk _ _
 | slice elem =>
  cases hx with
  | sl0 n c =>
   refine SRel.bind (s_sliceBounds hT _ _ _ hl' hi' hm') ?_
   rintro τ ⟨a1,a2,a3⟩ b hτ rfl
   refine SRel.bind (s_sizeOf hT elem) ?_
   rintro τ' u v hτ' ⟨rfl,_⟩
   simp only [Option.map_none,ite_self]
   exact .pure (.sl0 _ _)
  | sl n c ha =>
   rename_i a b
   refine SRel.bind (s_sliceBounds hT _ _ _ hl' hi' hm') ?_
   rintro τ ⟨a1,a2,a3⟩ b hτ rfl
   refine SRel.bind (s_sizeOf hT elem) ?_
   rintro τ' u v hτ' ⟨rfl,_⟩
   split
   ·exact .pure (.sl _ _ ((ha.mono hτ).mono hτ'))
   ·exact .pure (.sl _ _ (((ha.mono hτ).mono hτ').add _))
  | slz b =>
   refine SRel.bind (s_sliceBounds0 hT hl' hi' hm') ?_
   rintro τ a' b' hτ ⟨rfl,rfl⟩
   refine SRel.bind (s_sizeOf hT elem) ?_
   rintro τ' u v hτ' ⟨rfl,_⟩
   exact .pure (.slz _)
  | _=>exact s_stk _ _
 | pointer arr =>
  refine SRel.bind (s_asAddr hT hx) ?_
  intro τ a b hτ ha
  refine SRel.bind (sU hT arr) ?_
  rintro τ₁ d j hτ₁ ⟨rfl,hu⟩
  cases j with
  | array n elem =>
   dsimp only
   refine SRel.bind (s_sliceBounds hT _ _ _ ((hl'.mono hτ).mono hτ₁) ((hi'.mono hτ).mono hτ₁) ((hm'.mono hτ).mono hτ₁)) ?_
   rintro τ₂ ⟨a1,a2,a3⟩ b hτ₂ rfl
   refine SRel.bind (s_sizeOf hT elem) ?_
   rintro τ' u v hτ' ⟨rfl,_⟩
   exact .pure (.sl _ _ (((((ha.mono hτ).mono hτ₁).mono hτ₂).mono hτ').iteAdd _ _))
  | _=>exact s_stk _ _
 | _=>exact s_stk _ _
theorem s_sliceAt(hT:TB p p' G)(t:TypeId){x y:Value}(h:VRel ρ F x y){l l' i i' m m':Option Value}(hl:OptRel ρ F l l')(hi:OptRel ρ F i i')(hm:OptRel ρ F m m') :
  SRel p p' F (fun σ x y=>VRel σ F x y) ρ (Instr.sliceAt t x l i m) (Instr.sliceAt t y l' i' m'):=by
 unfold Instr.sliceAt
 refine SRel.bind (sU hT t) ?_
 rintro σ d j hσ ⟨rfl,hu⟩
 cases j with
 | array n elem =>
  refine SRel.bind (s_sureAddr (h.mono hσ)) ?_
  intro τ a b hτ ha
  refine SRel.bind (s_sliceBounds hT _ _ _ ((hl.mono hσ).mono hτ) ((hi.mono hσ).mono hτ) ((hm.mono hσ).mono hτ)) ?_
  rintro τ₂ ⟨a1,a2,a3⟩ b hτ₂ rfl
  refine SRel.bind (s_sizeOf hT elem) ?_
  rintro τ' u v hτ' ⟨rfl,_⟩
  exact .pure (.sl _ _ ((((ha.mono hτ).mono hτ₂).mono hτ').iteAdd _ _))
 | _=>exact s_slice hT t (h.mono hσ) (hl.mono hσ) (hi.mono hσ) (hm.mono hσ)
def fieldRoom(p:Program)(s:TypeId)(i:Nat):Bool:=match p.underlying s with
 | some (.struct fs)=>match fs[i]? with
  | some f=>match p.info? f.type with
   | some d=>d.size != 0
   | none=>true
  | none=>true
 | _=>true
theorem s_fieldAt(hT:TB p p' G)(s:TypeId)(i:Nat)(hr:fieldRoom p s i=true){x y:Value}(h:VRel ρ F x y):SRel p p' F (fun σ x y=>VRel σ F x y) ρ (Instr.fieldAt s x i) (Instr.fieldAt s y i):=by
 unfold Instr.fieldAt
 refine SRel.bind (sU hT s) ?_
 rintro σ d j hσ ⟨rfl,hu⟩
 cases j with
 | struct fs =>
  dsimp only
  cases hf:fs[i]? with
  | none=>exact s_stk _ _
  | some f =>
   dsimp only
   refine SRel.bind (s_sureAddr (h.mono hσ)) ?_
   intro τ a b hτ ha
   refine SRel.bind (P:=fun σ a b=>ARel σ a b) ?_ ?_
   ·unfold fieldPlace
    refine SRel.bind (s_sizeOf hT f.type) ?_
    rintro τ' n m hτ' ⟨rfl,d,hd,hs⟩
    have:m≠0:=by
     simp only [fieldRoom,hu,hf,hd] at hr
     rw [← hs];simpa using hr
    rw [if_neg this,if_neg this]
    exact .pure (((ha.mono hτ).mono hτ').add _)
   ·intro τ' a b _ hab
    exact .pure (.ptr hab)
 | _=>exact s_stk _ _
theorem s_askRoom(n:Nat):SRel p p' F (fun _ _ _=>True) ρ (askRoom n) (askRoom n):=by
 unfold askRoom
 exact s_ite (.noRoom (.pure trivial)) (.pure trivial)
theorem s_makeSlice(hT:TB p p' G)(t:TypeId)(hz:elemFlat p t=true){x y u v:Value}(h:VRel ρ F x y)(k:VRel ρ F u v):SRel p p' F (fun σ x y=>VRel σ F x y) ρ (Instr.makeSlice t x u) (Instr.makeSlice t y v):=by
 unfold Instr.makeSlice
 refine SRel.bind (sU hT t) ?_
 rintro σ d j hσ ⟨rfl,hu⟩
 cases j with
 | slice elem =>
  have hz':zeroFlat p elem=true:=by simpa [elemFlat,hu] using hz
  dsimp only
  refine SRel.bind (s_asInt (h.mono hσ)) ?_
  rintro σ₁ len b h₁ rfl
  refine SRel.bind (s_asInt ((k.mono hσ).mono h₁)) ?_
  rintro σ₂ cap b₂ h₂ rfl
  refine SRel.bind (s_typeInfo hT elem) ?_
  rintro σ₃ ti b₃ h₃ ⟨rfl,_⟩
  refine s_ite (s_ite ?_ (s_ite ?_ ?_)) ?_
  ·exact SRel.bind (qP (P:=fun _ _ _=>False) hT _ rfl) fun _ _ _ _ q=>q.elim
  ·exact SRel.bind (qP (P:=fun _ _ _=>False) hT _ rfl) fun _ _ _ _ q=>q.elim
  ·refine SRel.bind (P:=fun _ a b=>b=a) (.choose fun n=>.pure rfl) ?_
   rintro _ a b _ rfl
   exact SRel.bind (qP (P:=fun _ _ _=>False) hT _ rfl) fun _ _ _ _ q=>q.elim
  ·refine SRel.bind (s_askRoom _) ?_
   intro σ₄ _ _ h₄ _
   refine SRel.bind (s_sizeOf hT elem) ?_
   rintro σ₅ n m h₅ ⟨rfl,_⟩
   split
   ·refine SRel.bind (P:=fun σ a b=>b=a∧∀ x∈a,VRel σ F x x) (.pure ⟨rfl,by simp⟩) ?_
    rintro τ zc zc' hτ ⟨rfl,hzc⟩
    refine SRel.bind (s_newRow elem (zero_row hzc _)) ?_
    intro _ a b _ ha
    exact .pure (.sl _ _ ha)
   ·refine SRel.bind (s_zeroValue hT elem hz') ?_
    rintro τ₀ zv zv' hτ₀ ⟨rfl,hf⟩
    refine SRel.bind (P:=fun σ a b=>b=a∧∀ x∈a,VRel σ F x x) (.pure ⟨rfl,flat_cells hf⟩) ?_
    rintro τ zc zc' hτ ⟨rfl,hzc⟩
    refine SRel.bind (s_newRow elem (zero_row hzc _)) ?_
    intro _ a b _ ha
    exact .pure (.sl _ _ ha)
 | _=>exact s_stk _ _
theorem s_lenOf{x y:Value}(h:VRel ρ F x y):SRel p p' F (fun _ a b=>b=a∧∀ ad,x=.slice (some ad) 0 0→a=0) ρ (Builtin.lenOf x) (Builtin.lenOf y):=by
 cases h <;> first | exact .pure ⟨rfl,fun ad q=>by cases q;rfl⟩ | exact .pure ⟨rfl,fun ad q=>by cases q⟩ | exact s_stk _ _
theorem s_firstCells(s n:Nat){x y:Value}(h:VRel ρ F x y)(hn:∀ ad,x=.slice (some ad) 0 0→n=0):SRel p p' F (fun σ a b=>RW σ F a b∧(n=0→a.size=0)) ρ (Builtin.firstCells s n x) (Builtin.firstCells s n y):=by
 cases n with
 | zero =>
  cases h <;> first
   | exact s_stk _ _
   | exact .pure ⟨RW.empty,fun _=>rfl⟩
   | (unfold Builtin.firstCells;rw [Nat.zero_mul];exact .pure ⟨RW.empty,fun _=>rfl⟩)
   | (refine .pure ⟨RW.map _ fun b _=>.int _ _,fun _=>?_⟩;rw [Array.size_map];show (ByteArray.extract _ 0 0).size=0;rw [ByteArray.size_extract];simp)
 | succ n =>
  have z:∀ {σ:Ren G} {a b:Array Value},RW σ F a b→RW σ F a b∧(n+1=0→a.size=0):=fun h=>⟨h,fun q=>by omega⟩
  cases h <;> first
   | exact .pure (z RW.empty)
   | exact(s_loadCells _ (by assumption)).mono fun _ _ _ q=>z q
   | exact .pure (z (RW.map _ fun b _=>.int _ _))
   | exact absurd (hn _ rfl) (by omega)
   | exact s_stk _ _
theorem s_len(hT:TB p p' G)(ts:Array TypeId)(t:TypeId){xs ys:Array Value}(h:RW ρ F xs ys):SRel p p' F (fun σ x y=>VRel σ F x y) ρ (Builtin.len_ ts t xs) (Builtin.len_ ts t ys):=by
 unfold Builtin.len_
 cases ht:ts[0]? with
 | none=>exact s_stk _ _
 | some t0 =>
  cases hx:xs[0]? with
  | none=>rw [h.none hx];exact s_stk _ _
  | some x =>
   obtain⟨y,hy,hv⟩:=h.get hx
   rw [hy]
   dsimp only
   refine SRel.bind (sU hT t0) ?_
   rintro σ d j hσ ⟨rfl,hu⟩
   have hv':=hv.mono hσ
   cases j with
   | pointer arr =>
    dsimp only
    refine SRel.bind (sU hT arr) ?_
    rintro τ d j hτ ⟨rfl,_⟩
    cases j <;> first | exact .pure (.int _ _) | exact s_stk _ _
   | _=>cases hv' <;> first | exact .pure (.int _ _) | exact s_stk _ _
theorem s_cap(hT:TB p p' G)(ts:Array TypeId)(t:TypeId){xs ys:Array Value}(h:RW ρ F xs ys):SRel p p' F (fun σ x y=>VRel σ F x y) ρ (Builtin.cap_ ts t xs) (Builtin.cap_ ts t ys):=by
 unfold Builtin.cap_
 cases ht:ts[0]? with
 | none=>exact s_stk _ _
 | some t0 =>
  cases hx:xs[0]? with
  | none=>rw [h.none hx];exact s_stk _ _
  | some x =>
   obtain⟨y,hy,hv⟩:=h.get hx
   rw [hy]
   dsimp only
   refine SRel.bind (sU hT t0) ?_
   rintro σ d j hσ ⟨rfl,hu⟩
   have hv':=hv.mono hσ
   cases j with
   | pointer arr =>
    dsimp only
    refine SRel.bind (sU hT arr) ?_
    rintro τ d j hτ ⟨rfl,_⟩
    cases j <;> first | exact .pure (.int _ _) | exact s_stk _ _
   | _=>cases hv' <;> first | exact .pure (.int _ _) | exact s_stk _ _
theorem s_clear(hT:TB p p' G)(ts:Array TypeId)(t:TypeId)(hz:∀ t0,ts[0]? = some t0→elemFlat p t0=true){xs ys:Array Value}(h:RW ρ F xs ys):SRel p p' F (fun σ x y=>VRel σ F x y) ρ (Builtin.clear_ ts t xs) (Builtin.clear_ ts t ys):=by
 unfold Builtin.clear_
 cases ht:ts[0]? with
 | none=>exact s_stk _ _
 | some t0 =>
  cases hx:xs[0]? with
  | none=>rw [h.none hx];exact s_stk _ _
  | some x =>
   obtain⟨y,hy,hv⟩:=h.get hx
   rw [hy]
   dsimp only
   refine SRel.bind (sU hT t0) ?_
   rintro σ d j hσ ⟨rfl,hu⟩
   have hv':=hv.mono hσ
   have hz0:=hz t0 ht
   have fin:∀ {τ:Ren G},SRel p p' F (fun σ x y=>VRel σ F x y) τ (pure (.tuple #[])) (pure (.tuple #[])):=.pure VRel.undef
   cases hv' with
   | sl0 n c=>cases j <;> exact fin
   | @sl a b n c ha =>
    cases n with
    | zero=>cases j <;> exact fin
    | succ n =>
     cases j with
     | slice elem =>
      have hz':zeroFlat p elem=true:=by simpa [elemFlat,hu] using hz0
      refine SRel.bind (s_zeroValue hT elem hz') ?_
      rintro τ zv zv' hτ ⟨rfl,hf⟩
      have hzr:RW τ F (Builtin.zeroCells zv'.cells (n+1)) (Builtin.zeroCells zv'.cells (n+1)):=zero_row (flat_cells hf) _
      refine SRel.bind (s_storeCells _ _ 0 (ha.mono hτ) hzr.toList) ?_
      intro _ _ _ _ _
      exact fin
     | _=>exact s_stkB _ _ _
   | slz b=>cases j <;> exact fin
   | _=>cases j <;> exact s_stkB _ _ _
theorem s_max2{x y u v:Value}(h:VRel ρ F x y)(k:VRel ρ F u v):SRel p p' F (fun σ x y=>VRel σ F x y) ρ (Builtin.max2 x u) (Builtin.max2 y v):=by
 cases h <;> cases k <;> first
  | exact .pure (.int _ _)
  | exact s_uns _ (fun g q=>by cases q) _
  | exact s_stk _ _
  | exact .pure (.string _)
theorem s_min2{x y u v:Value}(h:VRel ρ F x y)(k:VRel ρ F u v):SRel p p' F (fun σ x y=>VRel σ F x y) ρ (Builtin.min2 x u) (Builtin.min2 y v):=by
 cases h <;> cases k <;> first
  | exact .pure (.int _ _)
  | exact s_uns _ (fun g q=>by cases q) _
  | exact s_stk _ _
  | exact .pure (.string _)
theorem s_foldRel{f:Value→Value→Sem Value}(hf:∀ (σ:Ren G) (x y u v:Value),VRel σ F x y→VRel σ F u v→SRel p p' F (fun σ x y=>VRel σ F x y) σ (f x u) (f y v)){l l':List Value}(h:LRel ρ F l l') :
  ∀ (σ:Ren G) (x y:Value),Ren.le ρ σ→VRel σ F x y→SRel p p' F (fun σ x y=>VRel σ F x y) σ (l.foldlM f x) (l'.foldlM f y):=by
 induction h with
 | nil=>intro σ x y _ hv;exact .pure hv
 | cons hv _ ih =>
  intro σ x y hl hx
  rw [List.foldlM_cons,List.foldlM_cons]
  exact SRel.bind (hf σ _ _ _ _ hx (hv.mono hl)) fun τ c d hm hr=>ih τ c d (Ren.le_trans hl hm) hr
theorem s_max(ts:Array TypeId)(t:TypeId){xs ys:Array Value}(h:RW ρ F xs ys):SRel p p' F (fun σ x y=>VRel σ F x y) ρ (Builtin.max_ ts t xs) (Builtin.max_ ts t ys):=by
 unfold Builtin.max_
 have hl:=h.toList
 revert hl
 generalize xs.toList=l
 generalize ys.toList=l'
 intro hl
 cases hl with
 | nil=>exact s_stk _ _
 | cons hv hk=>exact s_foldRel (fun σ x y u v a b=>s_max2 a b) hk ρ _ _ (Ren.le_refl _) hv
theorem s_min(ts:Array TypeId)(t:TypeId){xs ys:Array Value}(h:RW ρ F xs ys):SRel p p' F (fun σ x y=>VRel σ F x y) ρ (Builtin.min_ ts t xs) (Builtin.min_ ts t ys):=by
 unfold Builtin.min_
 have hl:=h.toList
 revert hl
 generalize xs.toList=l
 generalize ys.toList=l'
 intro hl
 cases hl with
 | nil=>exact s_stk _ _
 | cons hv hk=>exact s_foldRel (fun σ x y u v a b=>s_min2 a b) hk ρ _ _ (Ren.le_refl _) hv
end
end Go.Proofs.YtdoibgmmijhlfaaGreat.Sm
namespace Go.Proofs.YtdoibgmmijhlfaaGreat.Sm
open Go
set_option linter.unusedVariables false
section
variable {p p':Program}{F:FuncId→Prop}{G:Cx}{ρ:Ren G}{α β:Type}{P:Ren G→α→β→Prop}
theorem doom_uns(u:Unsupported)(hu:∀ g,u≠.initOrder g):Doomed p (unsupported u:Sem α):=fun w es=>⟨_,w,es,rfl,.inr ⟨u,rfl,hu⟩⟩
theorem s_iteH{c:Prop}[Decidable c]{s t:Sem α}{s' t':Sem β}(h:c→SRel p p' F P ρ s s')(k:SRel p p' F P ρ t t'):SRel p p' F P ρ (if c then s else t) (if c then s' else t'):=by
 by_cases hc:c
 ·rw [if_pos hc,if_pos hc];exact h hc
 ·rw [if_neg hc,if_neg hc];exact k
theorem s_appended(hT:TB p p' G)(elem:TypeId)(hz:zeroFlat p elem=true)(zeros:Bool)(s n:Nat){x y:Value}(h:VRel ρ F x y)(hn:zeros=false→∀ ad,x=.slice (some ad) 0 0→n=0) :
  SRel p p' F (fun σ a b=>RW σ F a b∧(n=0→a.size=0)) ρ (if (!zeros)=true then Builtin.firstCells s n x else if n * s=0 then pure #[] else do pure (Builtin.zeroCells (← zeroValue elem).cells n))
   (if (!zeros)=true then Builtin.firstCells s n y else if n * s=0 then pure #[] else do pure (Builtin.zeroCells (← zeroValue elem).cells n)):=by
 cases zeros with
 | false=>exact s_firstCells s n h (hn rfl)
 | true =>
  have hE:SRel p p' F (fun σ a b=>RW σ F a b∧(n=0→a.size=0)) ρ (pure #[]:Sem (Array Value)) (pure #[]):=.pure ⟨RW.empty,fun _=>rfl⟩
  have hZ:SRel p p' F (fun σ a b=>RW σ F a b∧(n=0→a.size=0)) ρ (do pure (Builtin.zeroCells (← zeroValue elem).cells n)) (do pure (Builtin.zeroCells (← zeroValue elem).cells n)):=by
   refine SRel.bind (s_zeroValue hT elem hz) ?_
   rintro σ a b _ ⟨rfl,hf⟩
   exact .pure ⟨zero_row (flat_cells hf) _,fun q=>by subst q;simp [Builtin.zeroCells]⟩
  show SRel p p' F _ ρ (if n * s=0 then pure #[] else do pure (Builtin.zeroCells (← zeroValue elem).cells n)) (if n * s=0 then pure #[] else do pure (Builtin.zeroCells (← zeroValue elem).cells n))
  exact s_ite hE hZ
theorem doom_share(size sl n:Nat)(base:Option Addr)(x:Value)(u:Unsupported)(hu:∀ g,u≠.initOrder g) :
  Doomed p (Builtin.mayShare size sl n base x >>= fun b=>if (!b)=true then (mark .noRoom >>= fun _=>(unsupported u:Sem Unit)) else unsupported u):=by
 have h1:∀ (w:World) (es:Array Event),∃ b,(Builtin.mayShare size sl n base x).runT p w es=(.ok b w,es):=by
  intro w es
  have hc:∀ (a:Addr) (c:Nat),∃ b,∀ es,(Builtin.holdsCells a c).runT p w es=(.ok b w,es):=by
   intro a c
   unfold Builtin.holdsCells
   cases hs:w.shape? a.block with
   | none=>exact⟨false,fun es=>by show (Sem.runT p (match w.shape? a.block with | some (_,n)=>_ | none=>_) w es)=_;rw [hs];rfl⟩
   | some q=>exact⟨_,fun es=>by show (Sem.runT p (match w.shape? a.block with | some (_,n)=>_ | none=>_) w es)=_;rw [hs];rfl⟩
  have second:∃ b,∀ es,(match x with
    | .slice (some b) _ _=>do pure (!(← Builtin.holdsCells b (n * size)) || base.any (·.block == b.block))
    | _=>pure false:Sem Bool).runT p w es=(.ok b w,es):=by
   split
   ·rename_i b _ _
    obtain⟨r,hr⟩:=hc b (n * size)
    refine⟨!r || base.any (·.block == b.block),fun es=>?_⟩
    show ((Builtin.holdsCells b (n * size)).bind _).runT p w es=_
    rw [Sem.runT_bind',hr es];rfl
   ·exact⟨false,fun es=>rfl⟩
  obtain⟨r2,h2⟩:=second
  unfold Builtin.mayShare
  cases base with
  | none =>
   exact⟨r2,h2 es⟩
  | some a =>
   obtain⟨r1,hr1⟩:=hc a (sl * size)
   dsimp only
   rw [show ∀ (f:Bool→Sem Bool),(do let __do_lift ← Builtin.holdsCells a (sl * size);let __do_lift_1 ← frozen (a.add (sl / 2 * size));let there ← pure (__do_lift && !__do_lift_1);f there:Sem Bool)=(Builtin.holdsCells a (sl * size)).bind fun r=>(frozen (a.add (sl / 2 * size))).bind fun z=>f (r && !z) from fun f=>rfl]
   rw [Sem.runT_bind',hr1 es]
   have both:∀ th:Bool,∃ b,(if (!th)=true then pure true else match x with
    | .slice (some b) _ _=>do pure (!(← Builtin.holdsCells b (n * size)) || (some a).any (·.block == b.block))
    | _=>pure false:Sem Bool).runT p w es=(.ok b w,es):=fun th=>by
    cases th
    ·exact⟨true,rfl⟩
    ·exact⟨r2,h2 es⟩
   exact both _
 intro w es
 obtain⟨b,hb⟩:=h1 w es
 show ∃ h u fs,((Builtin.mayShare size sl n base x).bind _).runT p w es=_∧_
 rw [Sem.runT_bind',hb]
 cases b
 ·exact⟨_,w,es.push _,rfl,.inr ⟨u,rfl,hu⟩⟩
 ·exact⟨_,w,es,rfl,.inr ⟨u,rfl,hu⟩⟩
theorem s_append(hT:TB p p' G)(ts:Array TypeId)(t:TypeId)(hz:∀ t0,ts[0]? = some t0→elemFlat p t0=true){xs ys:Array Value}(h:RW ρ F xs ys) :
  SRel p p' F (fun σ x y=>VRel σ F x y) ρ (Builtin.append_ ts t xs) (Builtin.append_ ts t ys):=by
 unfold Builtin.append_
 cases ht:ts[0]? with
 | none=>exact s_stk _ _
 | some t0 =>
  cases hx0:xs[0]? with
  | none=>rw [h.none hx0];exact s_stk _ _
  | some x0 =>
   obtain⟨y0,hy0,hv0⟩:=h.get hx0
   cases hx1:xs[1]? with
   | none=>rw [hy0,h.none hx1];exact s_stk _ _
   | some x1 =>
    obtain⟨y1,hy1,hv1⟩:=h.get hx1
    rw [hy0,hy1]
    dsimp only
    refine SRel.bind (sU hT t0) ?_
    rintro σ d j hσ ⟨rfl,hu⟩
    have hz0:=hz t0 ht
    cases j with
    | slice elem =>
     have hze:zeroFlat p elem=true:=by simpa [elemFlat,hu] using hz0
     have hs0:=hv0.mono hσ
     have hsh:(∃ a b sl sc,x0=.slice a sl sc∧y0=.slice b sl sc∧((a=none∧b=none)∨(∃ c d,a=some c∧b=some d∧ARel σ c d)∨(∃ d,a=some ⟨0,0,none⟩∧b=some d∧sl=0∧sc=0)))∨∀ a n c,x0≠.slice a n c:=by
      cases hs0 with
      | sl0 n c=>exact .inl ⟨_,_,n,c,rfl,rfl,.inl ⟨rfl,rfl⟩⟩
      | sl n c ha=>exact .inl ⟨_,_,n,c,rfl,rfl,.inr (.inl ⟨_,_,rfl,rfl,ha⟩)⟩
      | slz b=>exact .inl ⟨_,_,0,0,rfl,rfl,.inr (.inr ⟨_,rfl,rfl,rfl,rfl⟩)⟩
      | _=>exact .inr fun _ _ _ q=>by cases q
     rcases hsh with ⟨a,b,sl,sc,rfl,rfl,hab⟩ | hno
     ·dsimp only
      refine SRel.bind (s_sizeOf hT elem) ?_
      rintro σ₁ s' s h₁ ⟨rfl,_⟩
      have hv1':=(hv1.mono hσ).mono h₁
      cases ts[1]? with
      | none =>
       dsimp only
       refine SRel.bind (P:=fun _ a b=>b=a∧a=false) (.pure ⟨rfl,rfl⟩) ?_
       rintro σ₂ z z' h₂ ⟨rfl,rfl⟩
       have hv1':=hv1'.mono h₂
       simp only [Bool.false_eq_true,if_false]
       refine SRel.bind (s_lenOf hv1') ?_
       rintro σ₃ n' n h₃ ⟨rfl,hnl⟩
       have h13:=Ren.le_trans (Ren.le_trans h₁ h₂) h₃
       have hv1'':=hv1'.mono h₃
       refine s_iteH (fun hfit=>?_) ?_
       ·refine SRel.bind (s_appended hT elem hze false s _ hv1'' (fun _=>hnl)) ?_
        rintro σ₄ us vs h₄ ⟨hr,hz0⟩
        rcases hab with ⟨rfl,rfl⟩ | ⟨c,d,rfl,rfl,ha⟩ | ⟨d,rfl,rfl,rfl,rfl⟩
        ·exact .pure (.sl0 _ _)
        ·have ha':=(ha.mono h13).mono h₄
         refine SRel.bind (s_storeCells _ _ 0 (ha'.add _) hr.toList) ?_
         rintro σ₅ _ _ h₅ rfl
         exact .pure (.sl _ _ ha')
        ·have e0:=Array.eq_empty_of_size_eq_zero (hz0 (by omega))
         have e1:=Array.eq_empty_of_size_eq_zero (show vs.size=0 by rw [← hr.size,e0];rfl)
         subst e0;subst e1
         have e2:0+n=0:=by omega
         rw [e2]
         exact .pure (.slz _)
       ·refine SRel.bind (s_typeInfo hT elem) ?_
        rintro σ₄ ti b₄ h₄ ⟨rfl,_⟩
        refine s_ite (SRel.bind (qP (P:=fun _ _ _=>False) hT _ rfl) fun _ _ _ _ q=>q.elim) ?_
        refine SRel.bind (s_typeInfo hT elem) ?_
        rintro σ₅ ti b₅ h₅ ⟨rfl,_⟩
        refine s_ite ?_ ?_
        ·refine SRel.bind (P:=fun _ _ _=>False) ?_ fun _ _ _ _ q=>q.elim
         first | exact qP hT (.error _) rfl | exact .doom (doom_share _ _ _ _ _ _ fun g q=>by cases q)
        ·refine SRel.bind (P:=fun _ a b=>b=a) (.choose fun n=>.pure rfl) ?_
         rintro σ₆ cap b₆ h₆ rfl
         refine SRel.bind (s_typeInfo hT elem) ?_
         rintro σ₇ ti b₇ h₇ ⟨rfl,_⟩
         refine SRel.bind (s_askRoom _) ?_
         intro σ₈ _ _ h₈ _
         have h38:=Ren.le_trans (Ren.le_trans (Ren.le_trans (Ren.le_trans h₄ h₅) h₆) h₇) h₈
         have hv0':=(hs0.mono h13).mono h38
         refine SRel.bind (s_firstCells s sl hv0' (fun ad q=>by cases q;rfl)) ?_
         rintro σ₉ us vs h₉ ⟨hr,_⟩
         refine SRel.bind (s_appended hT elem hze false s _ ((hv1''.mono h38).mono h₉) (fun _=>hnl)) ?_
         rintro σa us' vs' ha ⟨hr',_⟩
         refine SRel.bind (s_zeroValue hT elem hze) ?_
         rintro σb zv zv' hb ⟨rfl,hf⟩
         refine SRel.bind (s_newRow elem ((((hr.mono ha).mono hb).append (hr'.mono hb)).append (zero_row (flat_cells hf) _))) ?_
         intro _ a b _ hab'
         exact .pure (.sl _ _ hab')
      | some t1 =>
       dsimp only
       refine SRel.bind (sU hT t1) ?_
       rintro σz d j hz1 ⟨rfl,_⟩
       have hv1':=hv1'.mono hz1
       have h₁:=Ren.le_trans h₁ hz1
       split
       ·refine SRel.bind (P:=fun _ a b=>b=a∧a=true) (.pure ⟨rfl,rfl⟩) ?_
        rintro σ₂ z z' h₂ ⟨rfl,rfl⟩
        have hv1':=hv1'.mono h₂
        simp only [if_true]
        refine SRel.bind (s_asInt hv1') ?_
        rintro σ₃' i b' h₃' rfl
        refine s_ite (SRel.bind (qP (P:=fun _ _ _=>False) hT _ rfl) fun _ _ _ _ q=>q.elim) ?_
        refine SRel.bind (s_typeInfo hT elem) ?_
        rintro σ₄' ti b' h₄' ⟨rfl,_⟩
        refine s_ite ?_ ?_
        ·refine SRel.bind (P:=fun _ a b=>b=a) (.choose fun n=>.pure rfl) ?_
         rintro _ a b _ rfl
         exact SRel.bind (qP (P:=fun _ _ _=>False) hT _ rfl) fun _ _ _ _ q=>q.elim
        ·have h₂:=Ren.le_trans (Ren.le_trans h₂ h₃') h₄'
         have hv1':=(hv1'.mono h₃').mono h₄'
         refine SRel.bind (P:=fun _ a b=>b=a) (.pure rfl) ?_
         rintro σ₃ n' n h₃ rfl
         have h13:=Ren.le_trans (Ren.le_trans h₁ h₂) h₃
         have hv1'':=hv1'.mono h₃
         refine s_iteH (fun hfit=>?_) ?_
         ·refine SRel.bind (s_appended hT elem hze true s _ hv1'' (fun q=>by cases q)) ?_
          rintro σ₄ us vs h₄ ⟨hr,hz0⟩
          rcases hab with ⟨rfl,rfl⟩ | ⟨c,d,rfl,rfl,ha⟩ | ⟨d,rfl,rfl,rfl,rfl⟩
          ·exact .pure (.sl0 _ _)
          ·have ha':=(ha.mono h13).mono h₄
           refine SRel.bind (s_storeCells _ _ 0 (ha'.add _) hr.toList) ?_
           rintro σ₅ _ _ h₅ rfl
           exact .pure (.sl _ _ ha')
          ·have e0:=Array.eq_empty_of_size_eq_zero (hz0 (by omega))
           have e1:=Array.eq_empty_of_size_eq_zero (show vs.size=0 by rw [← hr.size,e0];rfl)
           subst e0;subst e1
           have e2:0+n=0:=by omega
           rw [e2]
           exact .pure (.slz _)
         ·refine SRel.bind (s_typeInfo hT elem) ?_
          rintro σ₄ ti b₄ h₄ ⟨rfl,_⟩
          refine s_ite (SRel.bind (qP (P:=fun _ _ _=>False) hT _ rfl) fun _ _ _ _ q=>q.elim) ?_
          refine SRel.bind (s_typeInfo hT elem) ?_
          rintro σ₅ ti b₅ h₅ ⟨rfl,_⟩
          refine s_ite ?_ ?_
          ·refine SRel.bind (P:=fun _ _ _=>False) ?_ fun _ _ _ _ q=>q.elim
           first | exact qP hT (.error _) rfl | exact .doom (doom_share _ _ _ _ _ _ fun g q=>by cases q)
          ·refine SRel.bind (P:=fun _ a b=>b=a) (.choose fun n=>.pure rfl) ?_
           rintro σ₆ cap b₆ h₆ rfl
           refine SRel.bind (s_typeInfo hT elem) ?_
           rintro σ₇ ti b₇ h₇ ⟨rfl,_⟩
           refine SRel.bind (s_askRoom _) ?_
           intro σ₈ _ _ h₈ _
           have h38:=Ren.le_trans (Ren.le_trans (Ren.le_trans (Ren.le_trans h₄ h₅) h₆) h₇) h₈
           have hv0':=(hs0.mono h13).mono h38
           refine SRel.bind (s_firstCells s sl hv0' (fun ad q=>by cases q;rfl)) ?_
           rintro σ₉ us vs h₉ ⟨hr,_⟩
           refine SRel.bind (s_appended hT elem hze true s _ ((hv1''.mono h38).mono h₉) (fun q=>by cases q)) ?_
           rintro σa us' vs' ha ⟨hr',_⟩
           refine SRel.bind (s_zeroValue hT elem hze) ?_
           rintro σb zv zv' hb ⟨rfl,hf⟩
           refine SRel.bind (s_newRow elem ((((hr.mono ha).mono hb).append (hr'.mono hb)).append (zero_row (flat_cells hf) _))) ?_
           intro _ a b _ hab'
           exact .pure (.sl _ _ hab')
       ·refine SRel.bind (P:=fun _ a b=>b=a∧a=false) (.pure ⟨rfl,rfl⟩) ?_
        rintro σ₂ z z' h₂ ⟨rfl,rfl⟩
        have hv1':=hv1'.mono h₂
        simp only [Bool.false_eq_true,if_false]
        refine SRel.bind (s_lenOf hv1') ?_
        rintro σ₃ n' n h₃ ⟨rfl,hnl⟩
        have h13:=Ren.le_trans (Ren.le_trans h₁ h₂) h₃
        have hv1'':=hv1'.mono h₃
        refine s_iteH (fun hfit=>?_) ?_
        ·refine SRel.bind (s_appended hT elem hze false s _ hv1'' (fun _=>hnl)) ?_
         rintro σ₄ us vs h₄ ⟨hr,hz0⟩
         rcases hab with ⟨rfl,rfl⟩ | ⟨c,d,rfl,rfl,ha⟩ | ⟨d,rfl,rfl,rfl,rfl⟩
         ·exact .pure (.sl0 _ _)
         ·have ha':=(ha.mono h13).mono h₄
          refine SRel.bind (s_storeCells _ _ 0 (ha'.add _) hr.toList) ?_
          rintro σ₅ _ _ h₅ rfl
          exact .pure (.sl _ _ ha')
         ·have e0:=Array.eq_empty_of_size_eq_zero (hz0 (by omega))
          have e1:=Array.eq_empty_of_size_eq_zero (show vs.size=0 by rw [← hr.size,e0];rfl)
          subst e0;subst e1
          have e2:0+n=0:=by omega
          rw [e2]
          exact .pure (.slz _)
        ·refine SRel.bind (s_typeInfo hT elem) ?_
         rintro σ₄ ti b₄ h₄ ⟨rfl,_⟩
         refine s_ite (SRel.bind (qP (P:=fun _ _ _=>False) hT _ rfl) fun _ _ _ _ q=>q.elim) ?_
         refine SRel.bind (s_typeInfo hT elem) ?_
         rintro σ₅ ti b₅ h₅ ⟨rfl,_⟩
         refine s_ite ?_ ?_
         ·refine SRel.bind (P:=fun _ _ _=>False) ?_ fun _ _ _ _ q=>q.elim
          first | exact qP hT (.error _) rfl | exact .doom (doom_share _ _ _ _ _ _ fun g q=>by cases q)
         ·refine SRel.bind (P:=fun _ a b=>b=a) (.choose fun n=>.pure rfl) ?_
          rintro σ₆ cap b₆ h₆ rfl
          refine SRel.bind (s_typeInfo hT elem) ?_
          rintro σ₇ ti b₇ h₇ ⟨rfl,_⟩
          refine SRel.bind (s_askRoom _) ?_
          intro σ₈ _ _ h₈ _
          have h38:=Ren.le_trans (Ren.le_trans (Ren.le_trans (Ren.le_trans h₄ h₅) h₆) h₇) h₈
          have hv0':=(hs0.mono h13).mono h38
          refine SRel.bind (s_firstCells s sl hv0' (fun ad q=>by cases q;rfl)) ?_
          rintro σ₉ us vs h₉ ⟨hr,_⟩
          refine SRel.bind (s_appended hT elem hze false s _ ((hv1''.mono h38).mono h₉) (fun _=>hnl)) ?_
          rintro σa us' vs' ha ⟨hr',_⟩
          refine SRel.bind (s_zeroValue hT elem hze) ?_
          rintro σb zv zv' hb ⟨rfl,hf⟩
          refine SRel.bind (s_newRow elem ((((hr.mono ha).mono hb).append (hr'.mono hb)).append (zero_row (flat_cells hf) _))) ?_
          intro _ a b _ hab'
          exact .pure (.sl _ _ hab')
     ·cases x0 <;> first | exact s_stk _ _ | exact absurd rfl (hno _ _ _)
    | _=>exact s_stk _ _
end
end Go.Proofs.YtdoibgmmijhlfaaGreat.Sm
namespace Go.Proofs.YtdoibgmmijhlfaaGreat.Sm
open Go
set_option linter.unusedVariables false
section
variable {p p':Program}{F:FuncId→Prop}{G:Cx}{ρ:Ren G}{α β:Type}{P:Ren G→α→β→Prop}
def eqScalar(p:Program)(t:TypeId):Bool :=
 (match p.info? t with | some i => (match i.desc with | .named n _ => n != "sync.copyChecker" | _ => true) | none => true) &&
 match p.underlying t with
 | some .bool | some .string | some (.int _)=>true
 | _=>false
theorem s_ptrInt{s:Sem α}{s':Sem β}(h:∃ u,s=unsupported u∧∀ g,u≠.initOrder g):SRel p p' F P ρ s s':=by
 obtain⟨u,rfl,hu⟩:=h
 exact s_uns u hu _
theorem s_eqScalar(hT:TB p p' G)(hG:p.globals.size=G.glob)(d:Nat)(t:TypeId)(ht:eqScalar p t=true){x y u v:Value}(h:VRel ρ F x y)(k:VRel ρ F u v) :
  SRel p p' F (fun _ a b=>b=a) ρ (Op.equalIn (d+1) t x u) (Op.equalIn (d+1) t y v):=by
 unfold Op.equalIn
 refine SRel.bind (sU hT t) ?_
 rintro σ i j hσ ⟨rfl,hu⟩
 have hx:=h.mono hσ
 have hy:=k.mono hσ
 have ht':=ht
 simp only [eqScalar,hu,Bool.and_eq_true] at ht
 cases j <;> first | (exact absurd ht.2 Bool.false_ne_true) | skip
 ·cases hx <;> cases hy <;> first | exact .pure rfl | exact s_stk _ _
 ·rename_i ki
  cases hx with
  | int kx n =>
   cases hy with
   | int k' n'=>exact s_ite (.pure rfl) (s_stk _ _)
   | ptr ha =>
    by_cases hn:n=0
    ·subst hn;exact .pure rfl
    ·refine s_ptrInt ?_
     split <;> first | (exfalso;simp_all;done) | exact⟨_,rfl,fun g q=>by cases q⟩
   | ptr0=>exact s_uns _ (fun g q=>by cases q) _
   | _=>exact s_stk _ _
  | ptr0=>cases hy <;> exact s_uns _ (fun g q=>by cases q) _
  | @ptr a b ha =>
   cases hy with
   | int k' n =>
    by_cases hn:n=0
    ·subst hn;exact .pure rfl
    ·refine s_ptrInt ?_
     split <;> first | (exfalso;simp_all;done) | exact⟨_,rfl,fun g q=>by cases q⟩
   | @ptr c d hc =>
    refine SRel.bind (s_behindNumber ha) ?_
    rintro τ ⟨a',l⟩ ⟨b',l'⟩ hτ ⟨h1,_⟩
    refine SRel.bind (s_behindNumber (hc.mono hτ)) ?_
    rintro τ' ⟨c',m⟩ ⟨d',m'⟩ hτ' ⟨h2,_⟩
    simp only at h1 h2
    have g1:=(h1.mono hτ).mono hτ'
    have g2:=h2.mono hτ'
    refine s_withProg ?_
    dsimp only
    rw [show p'.globals=p.globals from by rw [hT.eq],hG]
    have rest:∀ {κ:Ren G} (f:TypeInfo→Sem Bool) (g:TypeInfo→Sem Bool),(∀ i:TypeInfo,p.info? t=some i→f i=unsupported .addressObserved)→SRel p p' F (fun _ a b=>b=a) κ (typeInfo t >>= f) (typeInfo t >>= g):=by
     intro κ f g hf
     refine SRel.bind (s_typeInfo hT t) ?_
     rintro κ' i j _ ⟨rfl,hi⟩
     rw [hf _ hi]
     exact s_uns _ (fun g q=>by cases q) _
    have named : ∀ (i : TypeInfo) (k : String → TypeId → Sem Bool), p.info? t = some i → (match i.desc with | .named "sync.copyChecker" u => k "sync.copyChecker" u | _ => unsupported .addressObserved) = unsupported .addressObserved := by
     intro i k hi
     have this : (match i.desc with | .named n _ => n != "sync.copyChecker" | _ => true) = true := by
      have:=ht.1
      rw [hi] at this
      exact this
     revert this
     cases hd:i.desc <;> first | (intro _;rfl) | skip
     intro this
     split
     ·rename_i u e
      cases e
      simp at this
     ·rfl
    by_cases hb:(a'.block == c'.block && decide (a'.block<G.glob))=true
    ·have hb2:a'.block=c'.block∧a'.block<G.glob:=by simpa using hb
     have hb3:b'.block=d'.block:=τ'.fn _ _ _ g1.blk (by rw [hb2.1];exact g2.blk)
     have hb4:b'.block<G.glob:=τ'.glob _ _ g1.blk hb2.2
     have hb5:(b'.block == d'.block && decide (b'.block<G.glob))=true:=by simp [hb3];omega
     rw [if_pos hb,if_pos hb5]
     refine SRel.bind (s_byteOf hT g1) ?_
     rintro κ x y hκ rfl
     refine SRel.bind (s_byteOf hT (g2.mono hκ)) ?_
     rintro κ' x' y' _ rfl
     exact .pure rfl
    ·rw [if_neg hb]
     refine .doom ?_
     refine fun w es=>?_
     have:∀ f:TypeInfo→Sem Bool,(∀ i:TypeInfo,p.info? t=some i→f i=unsupported .addressObserved)→Doomed p (typeInfo t >>= f):=by
      intro f hf w es
      cases hi:p.info? t with
      | none => exact ⟨.stuck "no such type", w, es, by show Sem.runT p (Sem.bind (match p.info? t with | some i => pure i | none => stuck "no such type") f) w es = _; rw [hi]; rfl, .inl ⟨_, rfl⟩⟩
      | some i => exact ⟨.unsupported .addressObserved, w, es, by show Sem.runT p (Sem.bind (match p.info? t with | some i => pure i | none => stuck "no such type") f) w es = _; rw [hi]; show Sem.runT p (f i) w es = _; rw [hf i hi]; rfl, .inr ⟨_, rfl, fun g q => by cases q⟩⟩
     exact this _ (fun i hi=>named i (fun _ _=>_) hi) w es
   | ptr0=>exact s_uns _ (fun g q=>by cases q) _
   | _=>exact s_uns _ (fun g q=>by cases q) _
  | _=>cases hy <;> first | exact s_uns _ (fun g q=>by cases q) _ | exact s_stk _ _
 ·cases hx <;> cases hy <;> first | exact .pure rfl | exact s_stk _ _
end
end Go.Proofs.YtdoibgmmijhlfaaGreat.Sm
namespace Go.Proofs.YtdoibgmmijhlfaaGreat.Sm
open Go
set_option linter.unusedVariables false
section
variable {p p':Program}{F:FuncId→Prop}{G:Cx}{ρ:Ren G}{α β:Type}{P:Ren G→α→β→Prop}
theorem s_forIn{γ δ:Type}{f g:γ→δ→Sem (ForInStep δ)}:∀ (l:List γ) (hf:∀ (σ:Ren G) (x:γ) (a:δ),x∈l→Ren.le ρ σ→SRel p p' F (fun _ a b=>b=a) σ (f x a) (g x a)) (σ:Ren G) (a:δ),Ren.le ρ σ →
    SRel p p' F (fun _ a b=>b=a) σ (forIn l a f) (forIn l a g)
  | [],hf,σ,a,hl=>by simp only [List.forIn_nil];exact .pure rfl
  | x :: l,hf,σ,a,hl=>by
    simp only [List.forIn_cons]
    refine SRel.bind (hf σ x a (List.mem_cons_self ..) hl) ?_
    rintro τ r r' hτ rfl
    cases r' with
    | done b=>exact .pure rfl
    | yield b=>exact s_forIn l (fun σ x a hx h=>hf σ x a (List.mem_cons_of_mem _ hx) h) τ b (Ren.le_trans hl hτ)
def eqStruct(p:Program)(t:TypeId):Bool :=
  match p.underlying t with
  | some (.struct fs)=>fs.all fun f=>eqScalar p f.type
  | _=>false
theorem s_eqStruct(hT:TB p p' G)(hG:p.globals.size=G.glob)(d:Nat)(t:TypeId)(ht:eqStruct p t=true)(h1:p.stoodInHeld t=false)(h2:p'.stoodInHeld t=false){x y u v:Value}(h:VRel ρ F x y)(k:VRel ρ F u v) :
    SRel p p' F (fun _ a b=>b=a) ρ (Op.equalIn (d+2) t x u) (Op.equalIn (d+2) t y v):=by
  unfold Op.equalIn
  refine SRel.bind (sU hT t) ?_
  rintro σ i j hσ ⟨rfl,hu⟩
  have hx:=h.mono hσ
  have hy:=k.mono hσ
  simp only [eqStruct,hu] at ht
  cases j <;> first | (exact absurd ht Bool.false_ne_true) | skip
  rename_i fs
  cases hx with
  | @agg xs ys a1 a2 =>
    cases hy with
    | @agg us vs b1 b2 =>
      have ra:RW σ F xs ys:=⟨a1,a2⟩
      have rb:RW σ F us vs:=⟨b1,b2⟩
      dsimp only
      refine s_withProg ?_
      rw [h1,h2]
      simp only [Bool.false_eq_true,if_false]
      rw [← Array.forIn_toList,← Array.forIn_toList]
      refine SRel.bind (P:=fun _ a b=>b=a) (s_forIn (ρ:=σ) _ ?_ _ _ (Ren.le_refl _)) ?_
      · intro τ f st hf hτ
        have hfs:eqScalar p f.type=true:=by
          have:=Array.all_eq_true_iff_forall_mem.1 ht f (by simpa using hf)
          exact this
        refine s_ite ?_ (.pure rfl)
        refine SRel.bind (s_part hT f.type (ra.mono hτ) f.offset) ?_
        intro τ₁ pa pb hτ₁ hp
        refine SRel.bind (s_part hT f.type ((rb.mono hτ).mono hτ₁) f.offset) ?_
        intro τ₂ qa qb hτ₂ hq
        refine SRel.bind (s_eqScalar hT hG d f.type hfs (hp.mono hτ₂) hq) ?_
        rintro τ₃ r r' _ rfl
        exact s_ite (.pure rfl) (.pure rfl)
      · rintro τ r r' _ rfl
        cases r' with
        | mk o _=>cases o <;> exact .pure rfl
    | _=>exact s_stk _ _
  | _=>cases hy <;> exact s_stk _ _
def eqNil(p:Program)(t:TypeId)(c:Operand):Bool :=
  match c,p.underlying t with
  | .const (.slice none _ _),some (.slice _)=>true
  | .const (.pointer none),some (.pointer _)=>true
  | _,_=>false
theorem s_eqNil(hT:TB p p' G)(d:Nat)(t:TypeId)(c:Value)(ht:eqNil p t (.const c)=true){x y:Value}(h:VRel ρ F x y) :
    SRel p p' F (fun _ a b=>b=a) ρ (Op.equalIn (d+1) t x c) (Op.equalIn (d+1) t y c):=by
  unfold Op.equalIn
  refine SRel.bind (sU hT t) ?_
  rintro σ i j hσ ⟨rfl,hu⟩
  simp only [eqNil,hu] at ht
  split at ht
  · rename_i e1 e2
    cases e1;cases e2
    cases h <;> first | exact .pure rfl | exact s_stk _ _
  · rename_i e1 e2
    cases e1;cases e2
    cases h <;> first | exact .pure rfl | exact s_stk _ _
  · cases ht
def okEq(p p':Program)(t:TypeId)(c:Operand):Bool :=
  !p.eqGuardType p.depth t && !p'.eqGuardType p'.depth t && (eqScalar p t || (eqStruct p t && !p.stoodInHeld t && !p'.stoodInHeld t) || eqNil p t c)
theorem s_equal(hT:TB p p' G)(hG:p.globals.size=G.glob)(t:TypeId)(e e':Operand→Value)(c:Operand)(hc:∀ v,c=.const v→e c=v∧e' c=v)(ht:okEq p p' t c=true){x y:Value}(h:VRel ρ F x y)
    (k:VRel ρ F (e c) (e' c)):SRel p p' F (fun _ a b=>b=a) ρ (Op.equal t x (e c)) (Op.equal t y (e' c)):=by
  unfold Op.equal Op.maxDepth
  simp only [okEq,Bool.and_eq_true,Bool.or_eq_true,Bool.not_eq_true'] at ht
  rcases ht.2 with (h1 | h1) | h1
  · exact s_eqScalar hT hG 9999 t h1 h k
  · exact s_eqStruct hT hG 9998 t h1.1.1 h1.1.2 h1.2 h k
  · have:∃ v,c=.const v:=by
      unfold eqNil at h1
      split at h1
      · exact⟨_,rfl⟩
      · exact⟨_,rfl⟩
      · cases h1
    obtain⟨v,rfl⟩:=this
    rw [(hc v rfl).1,(hc v rfl).2]
    exact s_eqNil hT 9999 t v h1 h
theorem s_eqGuard(hT:TB p p' G)(op:BinOp)(t:TypeId)(a c:Operand)(h1:op=.eql∨op=.neq→p.eqGuardType p.depth t=false∧p'.eqGuardType p'.depth t=false){x y u v:Value}(h:VRel ρ F x y)(k:VRel ρ F u v)(hx:x≠poison)(hu:u≠poison) :
    SRel p p' F (fun _ _ _=>True) ρ (eqGuard op t a c x u) (eqGuard op t a c y v):=by
  have main:op=.eql∨op=.neq→SRel p p' F (fun _ _ _=>True) ρ (eqGuard op t a c x u) (eqGuard op t a c y v):=by
    intro ho
    obtain⟨g1,g2⟩:=h1 ho
    rcases ho with rfl | rfl
    all_goals
      unfold eqGuard
      cases h <;> cases k <;> first
        | exact .pure trivial
        | (simp only [Bool.not_true,Bool.false_eq_true,if_false]
           refine s_withProg ?_
           refine s_withProg ?_
           rw [g1,g2]
           exact .pure trivial)
        | exact absurd rfl hx
        | exact absurd rfl hu
  by_cases ho:op=.eql∨op=.neq
  · exact main ho
  · cases op <;> first | exact .pure trivial | exact absurd (.inl rfl) ho | exact absurd (.inr rfl) ho
theorem s_unary(op:UnOp){x y:Value}(h:VRel ρ F x y):SRel p p' F (fun σ x y=>VRel σ F x y) ρ (Op.unary op x) (Op.unary op y):=by
  cases h <;> cases op <;> first
    | exact .pure (.int _ _)
    | exact .pure (.bool _)
    | exact s_stk _ _
    | exact s_uns _ (fun g q=>by cases q) _
def okConv(p:Program)(a b:TypeId):Bool :=
  match p.underlying a,p.underlying b with
  | some (.int _),some (.int _)=>true
  | _,_=>false
theorem s_convert(hT:TB p p' G)(a b:TypeId)(ho:okConv p a b=true){x y:Value}(h:VRel ρ F x y):SRel p p' F (fun σ x y=>VRel σ F x y) ρ (convert a b x) (convert a b y):=by
  unfold convert
  refine SRel.bind (sU hT a) ?_
  rintro σ i j hσ ⟨rfl,ha⟩
  refine SRel.bind (sU hT b) ?_
  rintro τ i' j' hτ ⟨rfl,hb⟩
  simp only [okConv,ha,hb] at ho
  cases j <;> first | (exact absurd ho Bool.false_ne_true) | skip
  cases j' <;> first | (exact absurd ho Bool.false_ne_true) | skip
  cases h <;> first
    | exact .pure (.int _ _)
    | exact s_uns _ (fun g q=>by cases q) _
    | exact s_stk _ _
theorem s_ofInt{s:Sem Value}(h:(∃ v,s=pure v∧flatV 1 v=true)∨(∃ why,s=stuck why)∨∃ m,s=runtimePanic (.error m))(hT:TB p p' G):SRel p p' F (fun σ x y=>VRel σ F x y) ρ s s:=by
  rcases h with ⟨v,rfl,hf⟩ | ⟨why,rfl⟩ | ⟨m,rfl⟩
  · exact .pure (flat_rel 1 v hf)
  · exact s_stk _ _
  · exact qP hT (.error m) rfl
theorem s_intBin(hT:TB p p' G)(op:BinOp)(t:TypeId)(k k':IntKind)(a b:Int):SRel p p' F (fun σ x y=>VRel σ F x y) ρ (binOp op t (.int k a) (.int k' b)) (binOp op t (.int k a) (.int k' b)):=by
  refine s_ofInt ?_ hT
  have sh:∀ op,(∃ v,Op.shift op k a k' b=pure v∧flatV 1 v=true)∨(∃ why,Op.shift op k a k' b=stuck why)∨∃ m,Op.shift op k a k' b=runtimePanic (.error m):=by
    intro op
    unfold Op.shift
    split
    · exact .inr (.inr ⟨_,rfl⟩)
    · cases op <;> first | exact .inl ⟨_,rfl,rfl⟩ | exact .inr (.inl ⟨_,rfl⟩)
  have ot:op=.shl∨op=.shr∨(op≠.shl∧op≠.shr):=by cases op <;> simp
  rcases ot with rfl | rfl | ⟨n1,n2⟩
  · exact sh .shl
  · exact sh .shr
  · by_cases hk:k=k'
    · subst hk
      cases op <;> first
        | exact absurd rfl n1
        | exact absurd rfl n2
        | (simp only [binOp,ne_eq,not_true_eq_false,if_false,Op.intArith,Op.intBits,Op.intCmp];exact .inl ⟨_,rfl,rfl⟩)
        | (simp only [binOp,ne_eq,not_true_eq_false,if_false,Op.intDiv]
           split
           · exact .inr (.inr ⟨_,rfl⟩)
           · exact .inl ⟨_,rfl,rfl⟩)
        | (simp only [binOp,ne_eq,not_true_eq_false,if_false,Op.intCmp];exact .inr (.inl ⟨_,rfl⟩))
    · cases op <;> first
        | exact absurd rfl n1
        | exact absurd rfl n2
        | (simp only [binOp,ne_eq,hk,not_false_eq_true,if_true];exact .inr (.inl ⟨_,rfl⟩))
end
end Go.Proofs.YtdoibgmmijhlfaaGreat.Sm
namespace Go.Proofs.YtdoibgmmijhlfaaGreat.Sm
open Go
set_option linter.unusedVariables false
section
variable {p p':Program}{F:FuncId→Prop}{G:Cx}{ρ:Ren G}{α β:Type}{P:Ren G→α→β→Prop}
theorem s_movedNil(hT:TB p p' G)(t:TypeId){x y:Value}(hv:VRel ρ F x y):SRel p p' F (fun σ x y=>VRel σ F x y) ρ (movedNumber t (.pointer none) x) (movedNumber t (.pointer none) y):=by
 unfold movedNumber
 refine SRel.bind (sU hT t) ?_
 rintro σ i j hl ⟨rfl,_⟩
 dsimp only
 split
 ·exact s_unsB _ (fun g q=>by cases q) _ _
 ·unfold Builtin.unsafeAdd_
  refine SRel.bind (s_asInt (hv.mono hl)) ?_
  rintro τ n m _ rfl
  dsimp only
  refine s_ite ?_ (s_ite ?_ ?_)
  ·exact s_uns _ (fun g q=>by cases q) _
  ·exact s_unsB _ (fun g q=>by cases q) _ _
  ·exact s_uns _ (fun g q=>by cases q) _
theorem s_addrMod'(hT:TB p p' G)(k:IntKind)(n:Int){a b:Addr}(h:ARel ρ a b):SRel p p' F (fun σ x y=>VRel σ F x y) ρ (do Op.addrMod k (← behindNumber a).1 n) (do Op.addrMod k (← behindNumber b).1 n):=by
 refine SRel.bind (s_behindNumber h) ?_
 rintro σ ⟨a',l⟩ ⟨b',l'⟩ hσ ⟨h1,_⟩
 exact s_addrMod hT k n (h1.mono hσ)
theorem s_addrSub'(hT:TB p p' G)(hG:p.globals.size=G.glob)(k:IntKind){a b c d:Addr}(h:ARel ρ a b)(l:ARel ρ c d) :
  SRel p p' F (fun σ x y=>VRel σ F x y) ρ (do Op.addrSub k (← behindNumber a).1 (← behindNumber c).1) (do Op.addrSub k (← behindNumber b).1 (← behindNumber d).1):=by
 refine SRel.bind (s_behindNumber h) ?_
 rintro σ ⟨a',l1⟩ ⟨b',l2⟩ hσ ⟨h1,_⟩
 refine SRel.bind (s_behindNumber (l.mono hσ)) ?_
 rintro τ ⟨c',l1⟩ ⟨d',l2⟩ hτ ⟨h2,_⟩
 exact s_addrSub hT hG k ((h1.mono hσ).mono hτ) (h2.mono hτ)
theorem s_addrCmp'(hT:TB p p' G)(hG:p.globals.size=G.glob)(op:BinOp){a b c d:Addr}(h:ARel ρ a b)(l:ARel ρ c d) :
  SRel p p' F (fun σ x y=>VRel σ F x y) ρ (do Op.addrCmp op (← behindNumber a).1 (← behindNumber c).1) (do Op.addrCmp op (← behindNumber b).1 (← behindNumber d).1):=by
 refine SRel.bind (s_behindNumber h) ?_
 rintro σ ⟨a',l1⟩ ⟨b',l2⟩ hσ ⟨h1,_⟩
 refine SRel.bind (s_behindNumber (l.mono hσ)) ?_
 rintro τ ⟨c',l1⟩ ⟨d',l2⟩ hτ ⟨h2,_⟩
 exact s_addrCmp hT hG op ((h1.mono hσ).mono hτ) (h2.mono hτ)
def notBare(p:Program)(t:TypeId):Bool:=match p.underlying t with | some .unsafePointer=>false | _=>true
theorem s_addPtr(hT:TB p p' G)(t:TypeId)(ht:notBare p t=true){x y u v:Value}{f g:Sem Value}(h:SRel p p' F (fun σ x y=>VRel σ F x y) ρ (movedNumber t x u) (movedNumber t y v))
  (hρ:∀ σ,Ren.le ρ σ→SRel p p' F (fun σ x y=>VRel σ F x y) σ (movedNumber t x u) (movedNumber t y v)) :
  SRel p p' F (fun σ x y=>VRel σ F x y) ρ (do if (← underlying t) matches .unsafePointer then f else movedNumber t x u) (do if (← underlying t) matches .unsafePointer then g else movedNumber t y v):=by
 refine SRel.bind (sU hT t) ?_
 rintro σ i j hl ⟨rfl,hu⟩
 simp only [notBare,hu] at ht
 cases j <;> first | exact absurd ht Bool.false_ne_true | exact hρ σ hl
def okBin(p p':Program)(op:BinOp)(t:TypeId)(c:Operand):Bool :=
 notBare p t && match op with
 | .eql | .neq=>okEq p p' t c
 | _=>true
theorem s_bin_int_ptr0(hT:TB p p' G)(hG:p.globals.size=G.glob)(op:BinOp)(t:TypeId)(hb:notBare p t=true)(k:IntKind)(n:Int)
  (heq:op=.eql∨op=.neq→SRel p p' F (fun _ a b=>b=a) ρ (Op.equal t (.int k n) (.pointer none)) (Op.equal t (.int k n) (.pointer none))):SRel p p' F (fun σ x y=>VRel σ F x y) ρ (binOp op t (.int k n) (.pointer none)) (binOp op t (.int k n) (.pointer none)):=by
 cases op with
 | eql=>exact SRel.bind (heq (.inl rfl)) fun _ _ _ _ q=>by subst q;exact .pure (.bool _)
 | neq=>exact SRel.bind (heq (.inr rfl)) fun _ _ _ _ q=>by subst q;exact .pure (.bool _)
 | add=>exact s_movedNil hT t (.int _ _)
 | _=>exact s_uns _ (fun g q=>by cases q) _
theorem s_bin_int_ptr(hT:TB p p' G)(hG:p.globals.size=G.glob)(op:BinOp)(t:TypeId)(hb:notBare p t=true)(k:IntKind)(n:Int){a b:Addr}(h:ARel ρ a b)
  (heq:op=.eql∨op=.neq→SRel p p' F (fun _ a b=>b=a) ρ (Op.equal t (.int k n) (.pointer (some a))) (Op.equal t (.int k n) (.pointer (some b)))):SRel p p' F (fun σ x y=>VRel σ F x y) ρ (binOp op t (.int k n) (.pointer (some a))) (binOp op t (.int k n) (.pointer (some b))):=by
 cases op with
 | eql=>exact SRel.bind (heq (.inl rfl)) fun _ _ _ _ q=>by subst q;exact .pure (.bool _)
 | neq=>exact SRel.bind (heq (.inr rfl)) fun _ _ _ _ q=>by subst q;exact .pure (.bool _)
 | add=>exact s_movedNumber hT t h (.int _ _)
 | and=>exact s_addrMod' hT _ _ h
 | _=>exact s_uns _ (fun g q=>by cases q) _
theorem s_bin_ptr0_int(hT:TB p p' G)(hG:p.globals.size=G.glob)(op:BinOp)(t:TypeId)(hb:notBare p t=true)(k:IntKind)(n:Int)
  (heq:op=.eql∨op=.neq→SRel p p' F (fun _ a b=>b=a) ρ (Op.equal t (.pointer none) (.int k n)) (Op.equal t (.pointer none) (.int k n))):SRel p p' F (fun σ x y=>VRel σ F x y) ρ (binOp op t (.pointer none) (.int k n)) (binOp op t (.pointer none) (.int k n)):=by
 cases op with
 | eql=>exact SRel.bind (heq (.inl rfl)) fun _ _ _ _ q=>by subst q;exact .pure (.bool _)
 | neq=>exact SRel.bind (heq (.inr rfl)) fun _ _ _ _ q=>by subst q;exact .pure (.bool _)
 | add=>exact s_addPtr hT t hb (s_movedNil hT t (.int _ _)) (fun σ hl=>s_movedNil hT t (.int _ _))
 | sub=>exact s_movedNil hT t (.int _ _)
 | _=>exact s_uns _ (fun g q=>by cases q) _
theorem s_bin_ptr_int(hT:TB p p' G)(hG:p.globals.size=G.glob)(op:BinOp)(t:TypeId)(hb:notBare p t=true)(k:IntKind)(n:Int){a b:Addr}(h:ARel ρ a b)
  (heq:op=.eql∨op=.neq→SRel p p' F (fun _ a b=>b=a) ρ (Op.equal t (.pointer (some a)) (.int k n)) (Op.equal t (.pointer (some b)) (.int k n))):SRel p p' F (fun σ x y=>VRel σ F x y) ρ (binOp op t (.pointer (some a)) (.int k n)) (binOp op t (.pointer (some b)) (.int k n)):=by
 cases op with
 | eql=>exact SRel.bind (heq (.inl rfl)) fun _ _ _ _ q=>by subst q;exact .pure (.bool _)
 | neq=>exact SRel.bind (heq (.inr rfl)) fun _ _ _ _ q=>by subst q;exact .pure (.bool _)
 | add=>exact s_addPtr hT t hb (s_movedNumber hT t h (.int _ _)) (fun σ hl=>s_movedNumber hT t (h.mono hl) (.int _ _))
 | sub=>exact s_movedNumber hT t h (.int _ _)
 | rem=>exact s_addrMod' hT _ _ h
 | and=>exact s_addrMod' hT _ _ h
 | _=>exact s_uns _ (fun g q=>by cases q) _
theorem s_bin_ptr_ptr(hT:TB p p' G)(hG:p.globals.size=G.glob)(op:BinOp)(t:TypeId)(hb:notBare p t=true){a b c d:Addr}(h:ARel ρ a b)(l:ARel ρ c d)
  (heq:op=.eql∨op=.neq→SRel p p' F (fun _ a b=>b=a) ρ (Op.equal t (.pointer (some a)) (.pointer (some c))) (Op.equal t (.pointer (some b)) (.pointer (some d)))):SRel p p' F (fun σ x y=>VRel σ F x y) ρ (binOp op t (.pointer (some a)) (.pointer (some c))) (binOp op t (.pointer (some b)) (.pointer (some d))):=by
 cases op with
 | eql=>exact SRel.bind (heq (.inl rfl)) fun _ _ _ _ q=>by subst q;exact .pure (.bool _)
 | neq=>exact SRel.bind (heq (.inr rfl)) fun _ _ _ _ q=>by subst q;exact .pure (.bool _)
 | sub=>exact s_addrSub' hT hG _ h l
 | lss=>exact s_addrCmp' hT hG _ h l
 | leq=>exact s_addrCmp' hT hG _ h l
 | gtr=>exact s_addrCmp' hT hG _ h l
 | geq=>exact s_addrCmp' hT hG _ h l
 | _=>exact s_uns _ (fun g q=>by cases q) _
theorem s_bin_str(op:BinOp)(t:TypeId)(a b:ByteArray):SRel p p' F (fun σ x y=>VRel σ F x y) ρ (binOp op t (.string a) (.string b)) (binOp op t (.string a) (.string b)):=by
 cases op with
 | add=>exact s_ite (s_uns _ (fun g q=>by cases q) _) (.pure (.string _))
 | eql=>exact .pure (.bool _)
 | neq=>exact .pure (.bool _)
 | lss=>exact .pure (.bool _)
 | leq=>exact .pure (.bool _)
 | gtr=>exact .pure (.bool _)
 | geq=>exact .pure (.bool _)
 | _=>exact s_stk _ _
def idleV:Value→Value→Bool
 | .int ..,y=>(match y with | .int .. | .pointer _=>false | _=>true)
 | .string _,y=>(match y with | .string _=>false | _=>true)
 | .pointer none,y=>(match y with | .int ..=>false | _=>true)
 | .pointer (some _),y=>(match y with | .int .. | .pointer (some _)=>false | _=>true)
 | .float ..,_ | .complex ..,_=>false
 | _,_=>true
theorem doom_stk(why:String):Doomed p (stuck why:Sem α):=fun w es=>⟨_,w,es,rfl,.inl ⟨why,rfl⟩⟩
theorem bin_idle(op:BinOp)(t:TypeId)(x u:Value)(n1:op≠.eql)(n2:op≠.neq)(h:idleV x u=true):Doomed p (binOp op t x u):=by
 unfold binOp
 split <;> first
  | exact doom_stk _
  | exact doom_uns _ (fun g q=>by cases q)
  | (exfalso;simp_all [idleV];done)
  | (rename_i a _ _;exfalso;cases a <;> simp [idleV] at h)
theorem bin_eql(t:TypeId)(x u:Value)(h:idleV x u=true):binOp .eql t x u=(do pure (.bool (← Op.equal t x u))):=by
 unfold binOp
 split <;> first
  | rfl
  | (exfalso;simp_all [idleV];done)
theorem bin_neq(t:TypeId)(x u:Value)(h:idleV x u=true):binOp .neq t x u=(do pure (.bool (!(← Op.equal t x u)))):=by
 unfold binOp
 split <;> first
  | rfl
  | (exfalso;simp_all [idleV];done)
theorem idle_same{x y u v:Value}(h:VRel ρ F x y)(k:VRel ρ F u v)(hx:x≠poison)(hu:u≠poison)(q:idleV x u=true):idleV y v=true:=by
 cases h <;> cases k <;> first | rfl | exact q | exact absurd rfl hx | exact absurd rfl hu
theorem doom_underlying(t:TypeId)(f:TypeDesc→Sem α)(h:∀ j,p.underlying t=some j→Doomed p (f j)):Doomed p (underlying t >>= f):=fun w es=>by
 show ∃ a u fs,((underlying t).bind f).runT p w es=_∧_
 rw [Sem.runT_bind']
 cases hu:(underlying t).runT p w es with
 | mk r es1 =>
  have hq : Sem.runT p (match p.underlying t with | some d => pure d | none => stuck "no such type" : Sem TypeDesc) w es = (r, es1) := hu
  cases hp:p.underlying t with
  | none =>
   rw [hp] at hq
   cases hq
   exact⟨_,_,_,rfl,.inl ⟨_,rfl⟩⟩
  | some j =>
   rw [hp] at hq
   cases hq
   exact h j hp w _
def notFunc(p:Program)(t:TypeId):Bool:=match p.underlying t with
 | some (.func ..)=>false
 | _=>true
theorem eq_doom(d:Nat)(t:TypeId)(hf:notFunc p t=true)(x y:Value)(h:x=poison∨y=poison):Doomed p (Op.equalIn (d+1) t x y):=by
 unfold Op.equalIn
 refine doom_underlying _ _ fun j hj=>?_
 unfold notFunc at hf
 rw [hj] at hf
 split <;> first
  | exact doom_stk _
  | exact doom_uns .addressObserved (fun g q=>by cases q)
  | (exfalso;simp at hf;done)
  | (exfalso;rcases h with h | h <;> cases h;done)
theorem bin_doom(op:BinOp)(t:TypeId)(hf:op=.eql∨op=.neq→notFunc p t=true)(x u:Value)(hi:idleV x u=true)(h:x=poison∨u=poison):Doomed p (binOp op t x u):=by
 have he:notFunc p t=true→Doomed p (Op.equal t x u):=fun hf=>by
  unfold Op.equal Op.maxDepth
  exact eq_doom 9999 t hf x u h
 by_cases n1:op=.eql
 ·subst n1
  rw [bin_eql t x u hi];exact(he (hf (.inl rfl))).bind _
 ·by_cases n2:op=.neq
  ·subst n2
   rw [bin_neq t x u hi];exact(he (hf (.inr rfl))).bind _
  ·exact bin_idle op t x u n1 n2 hi
theorem guard_doom(op:BinOp)(t:TypeId)(hf:op=.eql∨op=.neq→notFunc p t=true)(a c:Operand)(x u:Value)(hi:idleV x u=true)(h:x=poison∨u=poison):Doomed p (eqGuard op t a c x u >>= fun _=>binOp op t x u):=by
 have e:eqGuard op t a c x u=pure ():=by
  unfold eqGuard
  rcases h with rfl | rfl
  ·cases op <;> rfl
  ·cases op <;> cases x <;> rfl
 rw [e]
 exact bin_doom op t hf x u hi h
theorem okEq_notFunc{t:TypeId}{c:Operand}(h:okEq p p' t c=true):notFunc p t=true:=by
 simp only [okEq,Bool.and_eq_true,Bool.or_eq_true] at h
 unfold notFunc
 split
 ·rename_i hu
  rcases h.2 with (h | h) | h
  ·simp [eqScalar,hu] at h
  ·simp [eqStruct,hu] at h
  ·unfold eqNil at h
   rw [hu] at h
   split at h <;> simp_all
 ·rfl
theorem okBin_notFunc{op:BinOp}{t:TypeId}{c:Operand}(h:okBin p p' op t c=true)(q:op=.eql∨op=.neq):notFunc p t=true:=by
 simp only [okBin,Bool.and_eq_true] at h
 rcases q with rfl | rfl <;> exact okEq_notFunc h.2
theorem s_binOp(hT:TB p p' G)(hG:p.globals.size=G.glob)(op:BinOp)(t:TypeId)(e e':Operand→Value)(c:Operand)(hc:∀ v,c=.const v→e c=v∧e' c=v)(ho:okBin p p' op t c=true){x y:Value}(h:VRel ρ F x y)
  (k:VRel ρ F (e c) (e' c)):SRel p p' F (fun σ x y=>VRel σ F x y) ρ (binOp op t x (e c)) (binOp op t y (e' c)):=by
 have hf:=okBin_notFunc ho
 simp only [okBin,Bool.and_eq_true] at ho
 obtain⟨hb,ho⟩:=ho
 have heq:op=.eql∨op=.neq→SRel p p' F (fun _ a b=>b=a) ρ (Op.equal t x (e c)) (Op.equal t y (e' c)):=by
  intro q
  refine s_equal hT hG t e e' c hc ?_ h k
  rcases q with rfl | rfl <;> exact ho
 generalize e c=u at k heq
 generalize e' c=v at k heq
 clear hc
 by_cases hx:x=poison
 ·subst hx;exact .doom (bin_doom op t hf _ u rfl (.inl rfl))
 by_cases hu:u=poison
 ·subst hu
  refine .doom (bin_doom op t hf x _ ?_ (.inr rfl))
  cases h <;> rfl
 have idle:idleV x u=true→SRel p p' F (fun σ x y=>VRel σ F x y) ρ (binOp op t x u) (binOp op t y v):=by
  intro q
  by_cases n1:op=.eql
  ·subst n1
   rw [bin_eql t x u q,bin_eql t y v (idle_same h k hx hu q)]
   exact SRel.bind (heq (.inl rfl)) fun _ _ _ _ q=>by subst q;exact .pure (.bool _)
  ·by_cases n2:op=.neq
   ·subst n2
    rw [bin_neq t x u q,bin_neq t y v (idle_same h k hx hu q)]
    exact SRel.bind (heq (.inr rfl)) fun _ _ _ _ q=>by subst q;exact .pure (.bool _)
   ·exact .doom (bin_idle op t x u n1 n2 q)
 cases h with
 | int k1 n =>
  cases k with
  | int k2 m=>exact s_intBin hT op t k1 k2 n m
  | ptr0=>exact s_bin_int_ptr0 hT hG op t hb k1 n heq
  | ptr ha=>exact s_bin_int_ptr hT hG op t hb k1 n ha heq
  | _=>exact idle rfl
 | string s =>
  cases k with
  | string s'=>exact s_bin_str op t s s'
  | _=>exact idle rfl
 | ptr0 =>
  cases k with
  | int k2 m=>exact s_bin_ptr0_int hT hG op t hb k2 m heq
  | _=>exact idle rfl
 | ptr ha =>
  cases k with
  | int k2 m=>exact s_bin_ptr_int hT hG op t hb k2 m ha heq
  | ptr hd=>exact s_bin_ptr_ptr hT hG op t hb ha hd heq
  | _=>exact idle rfl
 | _=>exact idle rfl
end
inductive NRel {G:Cx} (ρ:Ren G) (F:FuncId→Prop):Next→Next→Prop where
 | value {x y:Value} (h:VRel ρ F x y):NRel ρ F (.value x) (.value y)
 | skip:NRel ρ F .skip .skip
 | enter {f:FuncId} {xs ys:Array Value} (hf:F f) (h:RW ρ F xs ys):NRel ρ F (.enter f xs) (.enter f ys)
def Enters (p : Program) (f : FuncId) : Prop := ∃ fn, p.funcs[f]? = some fn ∧ (fn.name == "runtime.NumGoroutine") = false ∧ fn.body.isNone = false
def goodOperand(fb:FuncId→Bool)(dd:Nat→Bool):Operand→Bool
 | .tmp t=>!dd t
 | .const v=>flatV 3 v
 | .global _=>false
 | .func f=>fb f
def goodBuiltin(p:Program)(b:Builtin)(ts:Array TypeId):Bool :=
 match b with
 | .append | .clear=>(match ts[0]? with | some t=>elemFlat p t | none=>true)
 | .cap | .len | .max | .min=>true
 | _=>false
def goodCall(p:Program)(fb:FuncId→Bool)(c:Call):Bool :=
 match c.callee with
 | .value _=>true
 | .builtin b=>goodBuiltin p b c.argTypes
 | .invoke ..=>false
def goodOp(p p':Program)(mk:TypeId→Bool)(fb:FuncId→Bool)(dd:Nat→Bool)(o:Op):Bool :=
 o.operands.all (goodOperand fb dd) && match o with
 | .move _ | .assign _ | .pick .. | .box .. | .load .. | .store .. | .nilCheck _ | .slice .. | .field .. | .indexAddr .. | .index .. | .extract .. | .panic _ | .unOp ..=>true
 | .makeInterface t _=>!mk t
 | .alloc t=>zeroFlat p t
 | .build t _=>zeroFlat p t
 | .buildSlice t _ _=>elemFlat p t
 | .binOp op t _ y _=>okBin p p' op t y
 | .convert a b _=>okConv p a b
 | .makeFunc (.func f) _ _=>fb f
 | .makeSlice t _ _=>elemFlat p t
 | .fieldAddr s _ i=>fieldRoom p s i
 | .call c=>goodCall p fb c
 | _=>false
section
variable {p p':Program}{F:FuncId→Prop}{G:Cx}{ρ:Ren G}{α β:Type}{P:Ren G→α→β→Prop}
theorem s_callFunc(hF:∀ f,F f→Enters p f∧Enters p' f){f:FuncId}(hf:F f){xs ys:Array Value}(h:RW ρ F xs ys):SRel p p' F (fun σ a b=>NRel σ F a b) ρ (callFunc f xs) (callFunc f ys):=by
 obtain⟨⟨fn,h1,h2,h3⟩,⟨fn',k1,k2,k3⟩⟩:=hF f hf
 unfold callFunc
 refine s_withProg ?_
 rw [h1,k1]
 simp only [h2,h3,k2,k3,Bool.false_eq_true,if_false]
 exact .pure (.enter hf h)
theorem s_value{s s':Sem Value}(h:SRel p p' F (fun σ x y=>VRel σ F x y) ρ s s'):SRel p p' F (fun σ a b=>NRel σ F a b) ρ (do pure (.value (← s))) (do pure (.value (← s'))) :=
 SRel.bind h fun _ _ _ _ q=>.pure (.value q)
theorem s_unit{s s':Sem Unit}(h:SRel p p' F (fun _ _ _=>True) ρ s s'):SRel p p' F (fun σ a b=>NRel σ F a b) ρ (do s;pure .skip) (do s';pure .skip) :=
 SRel.bind h fun _ _ _ _ _=>.pure .skip
theorem s_builtin(hT:TB p p' G)(b:Builtin)(ts:Array TypeId)(t:TypeId)(cs:Array Bool)(hb:goodBuiltin p b ts=true){xs ys:Array Value}(h:RW ρ F xs ys) :
  SRel p p' F (fun σ a b=>NRel σ F a b) ρ (builtin b ts t cs xs) (builtin b ts t cs ys):=by
 have hz:(match ts[0]? with | some t=>elemFlat p t | none=>true)=true→∀ t0,ts[0]? = some t0→elemFlat p t0=true:=fun q t0 e=>by rw [e] at q;exact q
 cases b <;> first | exact absurd hb Bool.false_ne_true | skip
 ·exact s_value (s_append hT ts t (hz hb) h)
 ·exact s_value (s_cap hT ts t h)
 ·exact s_value (s_clear hT ts t (hz hb) h)
 ·exact s_value (s_len hT ts t h)
 ·exact s_value (s_max ts t h)
 ·exact s_value (s_min ts t h)
theorem doom_typeInfo{α:Type}(t:TypeId)(f:TypeInfo→Sem α)(h:∀ j,p.info? t=some j→Doomed p (f j)):Doomed p (typeInfo t >>= f):=fun w es=>by
 show ∃ a u fs,((typeInfo t).bind f).runT p w es=_∧_
 rw [Sem.runT_bind']
 cases hu:(typeInfo t).runT p w es with
 | mk r es1 =>
  have hq : Sem.runT p (match p.info? t with | some d => pure d | none => stuck "no such type" : Sem TypeInfo) w es = (r, es1) := hu
  cases hp:p.info? t with
  | none =>
   rw [hp] at hq
   cases hq
   exact⟨_,_,_,rfl,.inl ⟨_,rfl⟩⟩
  | some j =>
   rw [hp] at hq
   cases hq
   exact h j hp w _
theorem doom_prog{α:Type}{f:Program→Sem α}(h:Doomed p (f p)):Doomed p (program >>= f):=fun w es=>h w es
theorem no_method (hT : TB p p' G) {i : TypeInfo} (h : p.info? 0 = some i) : i.methods.find? (·.name == "") = none := by
 have:=hT.nm
 rw [h] at this
 simpa using this
theorem method_doom (hT : TB p p' G) {α : Type} (n : Nat) (v : Value) (f : FuncId × Value → Sem α) : Doomed p (method n 0 v "" >>= f) := by
 refine Doomed.bind ?_ f
 cases n with
 | zero=>exact doom_uns (.resourceLimit _) (fun g q=>by cases q)
 | succ n =>
  unfold method
  refine doom_typeInfo _ _ fun i hi=>?_
  rw [no_method hT hi]
  exact doom_stk _
theorem nil_doom (hT : TB p p' G) {α : Type} (f : Option Bool → Sem α) : Doomed p (program >>= fun P => nilAhead (P.types.size + Made.depth) 0 (.tuple #[]) "" >>= f) := by
 refine doom_prog ?_
 refine Doomed.bind ?_ _
 generalize hn:p.types.size+Made.depth=n
 cases n with
 | zero=>unfold Made.depth at hn;omega
 | succ n =>
  unfold nilAhead
  refine doom_typeInfo _ _ fun i hi=>?_
  rw [no_method hT hi]
  exact doom_stk _
theorem call_doom(hT:TB p p' G)(xs:Array Value):Doomed p (do let d ← Deferred.ofValue poison xs;invoke d.target d.args):=by
 show Doomed p (invoke (.fn (.method "") #[]) ((#[.iface 0 (.tuple #[])] : Array Value) ++ xs))
 unfold invoke
 have e:((#[.iface 0 (.tuple #[])]:Array Value)++xs)[0]? = some (.iface 0 (.tuple #[])):=by rw [Array.getElem?_append_left (by simp)];rfl
 dsimp only
 rw [e]
 unfold callMethod
 exact doom_prog (method_doom hT _ _ _)
theorem s_ofValue(hT:TB p p' G)(hF:∀ f,F f→Enters p f∧Enters p' f){x y:Value}(hv:VRel ρ F x y){xs ys:Array Value}(h:RW ρ F xs ys) :
  SRel p p' F (fun σ a b=>NRel σ F a b) ρ (do let d ← Deferred.ofValue x xs;invoke d.target d.args) (do let d ← Deferred.ofValue y ys;invoke d.target d.args):=by
 cases hv with
 | func hf h1 h2 h3 h4=>exact s_callFunc hF hf ((RW.append ⟨h1,h2⟩ h).append ⟨h3,h4⟩)
 | nilFunc=>exact qP hT .nilDeref rfl
 | bad _=>exact .doom (call_doom hT xs)
 | _=>exact s_stkB _ _ _
theorem mem_all{fb:FuncId→Bool}{dd:Nat→Bool}{xs:Array Operand}(h:xs.all (goodOperand fb dd)=true){x:Operand}(hx:x∈xs):goodOperand fb dd x=true:=Array.all_eq_true_iff_forall_mem.1 h x hx
theorem parts_rel{e e':Operand→Value}(l:List (Nat×Operand))(h:∀ x∈l,VRel ρ F (e x.2) (e' x.2)):PartsRel ρ F (l.map fun (i,x)=>(i,e x)) (l.map fun (i,x)=>(i,e' x)):=by
 induction l with
 | nil=>exact .nil
 | cons a l ih=>exact .cons a.1 (h a (List.mem_cons_self ..)) (ih fun x hx=>h x (List.mem_cons_of_mem _ hx))
theorem opt_rel{e e':Operand→Value}(x:Option Operand)(h:∀ y,x=some y→VRel ρ F (e y) (e' y)):OptRel ρ F (x.map e) (x.map e'):=by
 cases x with
 | none=>exact .inl ⟨rfl,rfl⟩
 | some y=>exact .inr ⟨_,_,rfl,rfl,h y rfl⟩
theorem s_pick{x y u v a b:Value}(h:VRel ρ F x y)(k:VRel ρ F u v)(l:VRel ρ F a b):SRel p p' F (fun σ a b=>NRel σ F a b) ρ (do pure (.value (if ← asBool x then u else a))) (do pure (.value (if ← asBool y then v else b))):=by
 refine SRel.bind (s_asBool h) ?_
 rintro σ c d hσ rfl
 refine .pure (.value ?_)
 split
 ·exact k.mono hσ
 ·exact l.mono hσ
theorem s_iface(hT:TB p p' G)(t:TypeId)(htm:G.mark t=false){x y:Value}(h:VRel ρ F x y):SRel p p' F (fun σ x y=>VRel σ F x y) ρ (Instr.makeInterface t x) (Instr.makeInterface t y):=by
 unfold Instr.makeInterface
 refine SRel.bind (sU hT t) ?_
 rintro σ i j hσ ⟨rfl,_⟩
 cases j <;> first | exact s_stk _ _ | exact .pure (.iface t htm (h.mono hσ))
theorem s_extract{x y:Value}(h:VRel ρ F x y)(i:Nat):SRel p p' F (fun σ x y=>VRel σ F x y) ρ (Instr.extract x i) (Instr.extract y i):=by
 unfold Instr.extract
 cases h with
 | @tuple xs ys h1 h2 =>
  dsimp only
  cases hx:xs[i]? with
  | none=>exact s_stk _ _
  | some x =>
   obtain⟨y,hy,hv⟩:=RW.get ⟨h1,h2⟩ hx
   simp only [hy]
   exact .pure hv
 | _=>exact s_stk _ _
theorem s_panicOp{x y:Value}(h:VRel ρ F x y):SRel p p' F (fun σ x y=>VRel σ F x y) ρ (Instr.panic x) (Instr.panic y):=by
 unfold Instr.panic
 cases h with
 | iface t ht h=>exact .panic (.iface t ht h)
 | _=>exact s_stk _ _
theorem s_nilCheck(hT:TB p p' G)(e e':Operand→Value)(o:Oper)(x:Operand)(ho:o.op=.nilCheck x)(h:VRel ρ F (e x) (e' x)):SRel p p' F (fun σ a b=>NRel σ F a b) ρ (execOp e o) (execOp e' o):=by
 unfold execOp
 rw [ho]
 dsimp only
 generalize e x=u at h
 generalize e' x=v at h
 cases h with
 | ptr0=>exact qP hT .nilDeref rfl
 | nilFunc=>exact qP hT .nilDeref rfl
 | bool b=>exact .pure (.value (.bool b))
 | int k n=>exact .pure (.value (.int k n))
 | string s=>exact .pure (.value (.string s))
 | ptr h=>exact .pure (.value (.ptr h))
 | sl0 n c=>exact .pure (.value (.sl0 n c))
 | sl n c h=>exact .pure (.value (.sl n c h))
 | slz b=>exact .pure (.value (.slz b))
 | bad h=>exact .doom (nil_doom hT _)
 | func hf h1 h2 h3 h4=>exact .pure (.value (.func hf h1 h2 h3 h4))
 | iface t ht h=>exact .pure (.value (.iface t ht h))
 | agg h1 h2=>exact .pure (.value (.agg h1 h2))
 | tuple h1 h2=>exact .pure (.value (.tuple h1 h2))
theorem s_execOp(hT:TB p p' G)(hG:p.globals.size=G.glob)(fb:FuncId→Bool)(dd:Nat→Bool)(hFb:∀ f,F f↔fb f=true)(hF:∀ f,F f→Enters p f∧Enters p' f)(e e':Operand→Value)(o:Oper)
  (hc:∀ v,e (.const v)=v∧e' (.const v)=v) (he:∀ x,goodOperand fb dd x=true→VRel ρ F (e x) (e' x)) (hg:goodOp p p' G.mark fb dd o.op=true):SRel p p' F (fun σ a b=>NRel σ F a b) ρ (execOp e o) (execOp e' o):=by
 simp only [goodOp,Bool.and_eq_true] at hg
 obtain⟨hop,hg⟩:=hg
 have H:∀ x∈o.op.operands,VRel ρ F (e x) (e' x):=fun x hx=>he x (mem_all hop hx)
 cases ho:o.op with
 | nilCheck x=>rw [ho] at H;exact s_nilCheck hT e e' o x ho (H x (by simp [Op.operands]))
 | move x=>rw [ho] at H;simp only [execOp,ho];exact .pure (.value (H x (by simp [Op.operands])))
 | assign x=>rw [ho] at H;simp only [execOp,ho];exact .pure (.value (H x (by simp [Op.operands])))
 | pick c a b=>rw [ho] at H;simp only [execOp,ho];exact s_pick (H c (by simp [Op.operands])) (H a (by simp [Op.operands])) (H b (by simp [Op.operands]))
 | alloc t=>rw [ho] at hg;simp only [execOp,ho];exact s_value (s_alloc hT t hg)
 | box t x=>rw [ho] at H;simp only [execOp,ho];exact s_value (s_box t (H x (by simp [Op.operands])))
 | build t ps =>
  rw [ho] at H hg
  simp only [execOp,ho]
  refine s_value (s_build hT t hg ?_)
  rw [Array.toList_map,Array.toList_map]
  exact parts_rel _ fun x hx=>H x.2 (by simp only [Op.operands,List.mem_toArray,List.mem_map];exact⟨x,hx,rfl⟩)
 | buildSlice t n ps =>
  rw [ho] at H hg
  simp only [execOp,ho]
  refine s_value (s_buildSlice hT t hg n ?_)
  rw [Array.toList_map,Array.toList_map]
  exact parts_rel _ fun x hx=>H x.2 (by simp only [Op.operands,List.mem_toArray,List.mem_map];exact⟨x,hx,rfl⟩)
 | load t a =>
  rw [ho] at H
  simp only [execOp,ho]
  refine s_value ?_
  unfold Instr.loadAt
  refine SRel.bind (s_sureAddr (H a (by simp [Op.operands]))) ?_
  intro σ x y hσ ha
  exact s_loadVar hT t (ha.mono hσ)
 | store t a v =>
  rw [ho] at H
  simp only [execOp,ho]
  refine s_unit ?_
  unfold Instr.storeAt
  refine SRel.bind (s_sureAddr (H a (by simp [Op.operands]))) ?_
  intro σ x y hσ ha
  exact s_storeVar hT t (ha.mono hσ) ((H v (by simp [Op.operands])).mono hσ)
 | binOp op t x y yt =>
  rw [ho] at H hg
  simp only [execOp,ho]
  refine s_value ?_
  have hvx:=H x (by simp [Op.operands])
  have hvy:=H y (by simp [Op.operands])
  by_cases hx:e x=poison
  ·exact .doom (guard_doom op t (okBin_notFunc hg) x y _ _ (by rw [hx];rfl) (.inl hx))
  by_cases hu:e y=poison
  ·refine .doom (guard_doom op t (okBin_notFunc hg) x y _ _ ?_ (.inr hu))
   rw [hu]
   revert hvx
   generalize e x=a
   generalize e' x=b
   intro hvx
   cases hvx <;> rfl
  refine SRel.bind (s_eqGuard hT op t x y ?_ hvx hvy hx hu) ?_
  ·intro q
   have hg':okBin p p' op t y=true:=hg
   simp only [okBin,Bool.and_eq_true] at hg'
   have h2:okEq p p' t y=true:=by
    rcases q with rfl | rfl <;> exact hg'.2
   simp only [okEq,Bool.and_eq_true,Bool.not_eq_true'] at h2
   exact h2.1
  ·intro σ _ _ hσ _
   exact s_binOp hT hG op t e e' y (fun v q=>by subst q;exact hc v) hg ((H x (by simp [Op.operands])).mono hσ) ((H y (by simp [Op.operands])).mono hσ)
 | unOp op t x=>rw [ho] at H;simp only [execOp,ho];exact s_value (s_unary op (H x (by simp [Op.operands])))
 | convert a b x=>rw [ho] at H hg;simp only [execOp,ho];exact s_value (s_convert hT a b hg (H x (by simp [Op.operands])))
 | makeInterface t x=>rw [ho] at H hg;simp only [execOp,ho];exact s_value (s_iface hT t (by simpa using hg) (H x (by simp [Op.operands])))
 | makeFunc fn xs ys =>
  rw [ho] at H hg
  simp only [execOp,ho]
  refine s_value ?_
  cases fn with
  | func f =>
   have h1:RW ρ F (xs.map e) (xs.map e'):=RW.map _ fun x hx=>H x (by simp [Op.operands,hx])
   have h2:RW ρ F (ys.map e) (ys.map e'):=RW.map _ fun x hx=>H x (by simp [Op.operands,hx])
   exact .pure (.func ((hFb f).2 hg) h1.size h1.at_ h2.size h2.at_)
  | _=>exact absurd hg Bool.false_ne_true
 | makeSlice t l c=>rw [ho] at H hg;simp only [execOp,ho];exact s_value (s_makeSlice hT t hg (H l (by simp [Op.operands])) (H c (by simp [Op.operands])))
 | slice t x lo hi mx =>
  rw [ho] at H
  simp only [execOp,ho]
  refine s_value (s_sliceAt hT t (H x (by simp [Op.operands])) (opt_rel lo ?_) (opt_rel hi ?_) (opt_rel mx ?_))
  ·rintro y rfl;exact H y (by simp [Op.operands])
  ·rintro y rfl;exact H y (by simp [Op.operands])
  ·rintro y rfl;exact H y (by simp [Op.operands])
 | fieldAddr s x i=>rw [ho] at H hg;simp only [execOp,ho];exact s_value (s_fieldAt hT s i hg (H x (by simp [Op.operands])))
 | field t x i=>rw [ho] at H;simp only [execOp,ho];exact s_value (s_field hT t (H x (by simp [Op.operands])) i)
 | indexAddr t x i=>rw [ho] at H;simp only [execOp,ho];exact s_value (s_indexAt hT t (H x (by simp [Op.operands])) (H i (by simp [Op.operands])))
 | index t x i=>rw [ho] at H;simp only [execOp,ho];exact s_value (s_index hT t (H x (by simp [Op.operands])) (H i (by simp [Op.operands])))
 | extract x i=>rw [ho] at H;simp only [execOp,ho];exact s_value (s_extract (H x (by simp [Op.operands])) i)
 | panic x=>rw [ho] at H;simp only [execOp,ho];exact s_value (s_panicOp (H x (by simp [Op.operands])))
 | call c =>
  rw [ho] at H hg
  simp only [execOp,ho]
  have hargs:RW ρ F (c.args.map e) (c.args.map e'):=RW.map _ fun x hx=>H x (by simp [Op.operands,Call.operands,hx])
  unfold resolve
  cases hcal:c.callee with
  | value f =>
   dsimp only
   exact s_ofValue hT hF (H f (by simp [Op.operands,Call.operands,hcal])) hargs
  | builtin b =>
   have hb:goodBuiltin p b c.argTypes=true:=by
    have:goodCall p fb c=true:=hg
    simpa [goodCall,hcal] using this
   exact s_builtin hT b c.argTypes o.type _ hb hargs
  | invoke r m =>
   have:goodCall p fb c=true:=hg
   simp [goodCall,hcal] at this
 | _=>rw [ho] at hg;exact absurd hg Bool.false_ne_true
end
end Go.Proofs.YtdoibgmmijhlfaaGreat.Sm
