/- SimV -/
import Derived.Calls
namespace Go.Proofs.YtdoibgmmijhlfaaGreat.Sm
open Go
set_option linter.unusedVariables false
structure Cx where
 glob:Nat
 mark:TypeId→Bool
 f2:FuncId→Bool:=fun _=>false
 free:Bool:=true
structure Ren(G:Cx) where
 rel:Nat→Nat→Prop
 fn:∀ b c d,rel b c→rel b d→c=d
 inj:∀ a b c,rel a c→rel b c→a=b
 glob:∀ b c,rel b c→b<G.glob→c<G.glob
def Ren.le{G:Cx}(ρ σ:Ren G):Prop:=∀ b c,ρ.rel b c→σ.rel b c
theorem Ren.le_refl{G:Cx}(ρ:Ren G):Ren.le ρ ρ:=fun _ _ h=>h
theorem Ren.le_trans{G:Cx}{ρ σ τ:Ren G}(h:Ren.le ρ σ)(k:Ren.le σ τ):Ren.le ρ τ:=fun b c x=>k b c (h b c x)
structure ARel{G:Cx}(ρ:Ren G)(a b:Addr):Prop where
 blk:ρ.rel a.block b.block
 off:b.off=a.off
 spot:b.spot=a.spot
theorem ARel.mono{G:Cx}{ρ σ:Ren G}{a b:Addr}(h:ARel ρ a b)(k:Ren.le ρ σ):ARel σ a b:=⟨k _ _ h.blk,h.off,h.spot⟩
theorem ARel.add{G:Cx}{ρ:Ren G}{a b:Addr}(h:ARel ρ a b)(n:Nat):ARel ρ (a.add n) (b.add n):=by
 unfold Addr.add
 by_cases hn:n=0
 ·simp only [hn,if_true];exact h
 ·simp only [hn,if_false];exact⟨h.blk,by rw [h.off],rfl⟩
def alien:Value→Bool
 | .bool _ | .int .. | .string _ | .pointer none | .slice none .. | .nilFunc | .agg _ | .tuple _=>false
 | _=>true
abbrev poison : Value := .func (.method "") #[.iface 0 (.tuple #[])] #[]
inductive VRel {G:Cx} (ρ:Ren G) (F:FuncId→Prop):Value→Value→Prop where
 | bool (b:Bool):VRel ρ F (.bool b) (.bool b)
 | int (k:IntKind) (n:Int):VRel ρ F (.int k n) (.int k n)
 | string (s:ByteArray):VRel ρ F (.string s) (.string s)
 | ptr0:VRel ρ F (.pointer none) (.pointer none)
 | ptr {a b:Addr} (h:ARel ρ a b):VRel ρ F (.pointer (some a)) (.pointer (some b))
 | sl0 (n c:Nat):VRel ρ F (.slice none n c) (.slice none n c)
 | sl {a b:Addr} (n c:Nat) (h:ARel ρ a b):VRel ρ F (.slice (some a) n c) (.slice (some b) n c)
 | slz (b:Addr):VRel ρ F (.slice (some ⟨0,0,none⟩) 0 0) (.slice (some b) 0 0)
 | bad {y : Value} (h : alien y = true) : VRel ρ F (.func (.method "") #[.iface 0 (.tuple #[])] #[]) y
 | nilFunc:VRel ρ F .nilFunc .nilFunc
 | func {f:FuncId} {xs ys us vs:Array Value} (hf:F f) (h1:xs.size=ys.size) (h2:∀ (i:Nat) (x y:Value),xs[i]? = some x→ys[i]? = some y→VRel ρ F x y)
   (h3:us.size=vs.size) (h4:∀ (i:Nat) (x y:Value),us[i]? = some x→vs[i]? = some y→VRel ρ F x y):VRel ρ F (.func (.func f) xs us) (.func (.func f) ys vs)
 | iface (t:TypeId) (ht:G.mark t=false) {x y:Value} (h:VRel ρ F x y):VRel ρ F (.iface t x) (.iface t y)
 | agg {xs ys:Array Value} (h1:xs.size=ys.size) (h2:∀ (i:Nat) (x y:Value),xs[i]? = some x→ys[i]? = some y→VRel ρ F x y):VRel ρ F (.agg xs) (.agg ys)
 | tuple {xs ys:Array Value} (h1:xs.size=ys.size) (h2:∀ (i:Nat) (x y:Value),xs[i]? = some x→ys[i]? = some y→VRel ρ F x y):VRel ρ F (.tuple xs) (.tuple ys)
structure RW{G:Cx}(ρ:Ren G)(F:FuncId→Prop)(xs ys:Array Value):Prop where
 size:xs.size=ys.size
 at_:∀ (i:Nat) (x y:Value),xs[i]? = some x→ys[i]? = some y→VRel ρ F x y
section
variable {G:Cx}{ρ σ:Ren G}{F:FuncId→Prop}
theorem VRel.mono{x y:Value}(h:VRel ρ F x y)(k:Ren.le ρ σ):VRel σ F x y:=by
 induction h with
 | bool b=>exact .bool b
 | int k n=>exact .int k n
 | string s=>exact .string s
 | ptr0=>exact .ptr0
 | ptr h=>exact .ptr (h.mono k)
 | sl0 n c=>exact .sl0 n c
 | sl n c h=>exact .sl n c (h.mono k)
 | slz b=>exact .slz b
 | bad h=>exact .bad h
 | nilFunc=>exact .nilFunc
 | func hf h1 _ h3 _ i2 i4=>exact .func hf h1 i2 h3 i4
 | iface t ht _ ih=>exact .iface t ht ih
 | agg h1 _ ih=>exact .agg h1 ih
 | tuple h1 _ ih=>exact .tuple h1 ih
theorem VRel.wide{F':FuncId→Prop}{x y:Value}(h:VRel ρ F x y)(k:∀ f,F f→F' f):VRel ρ F' x y:=by
 induction h with
 | bool b=>exact .bool b
 | int k n=>exact .int k n
 | string s=>exact .string s
 | ptr0=>exact .ptr0
 | ptr h=>exact .ptr h
 | sl0 n c=>exact .sl0 n c
 | sl n c h=>exact .sl n c h
 | slz b=>exact .slz b
 | bad h=>exact .bad h
 | nilFunc=>exact .nilFunc
 | func hf h1 _ h3 _ i2 i4=>exact .func (k _ hf) h1 i2 h3 i4
 | iface t ht _ ih=>exact .iface t ht ih
 | agg h1 _ ih=>exact .agg h1 ih
 | tuple h1 _ ih=>exact .tuple h1 ih
theorem RW.mono{xs ys:Array Value}(h:RW ρ F xs ys)(k:Ren.le ρ σ):RW σ F xs ys:=⟨h.size,fun i x y a b=>(h.at_ i x y a b).mono k⟩
theorem VRel.undef:VRel ρ F undef undef:=.tuple rfl (fun i x y h=>by simp at h)
theorem RW.empty:RW ρ F #[] #[]:=⟨rfl,fun i x y h=>by simp at h⟩
theorem RW.get{xs ys:Array Value}(h:RW ρ F xs ys){i:Nat}{x:Value}(hx:xs[i]? = some x):∃ y,ys[i]? = some y∧VRel ρ F x y:=by
 obtain⟨hi,_⟩:=Array.getElem?_eq_some_iff.1 hx
 have hi':i<ys.size:=h.size ▸ hi
 exact⟨ys[i],Array.getElem?_eq_getElem hi',h.at_ i x _ hx (Array.getElem?_eq_getElem hi')⟩
theorem RW.none{xs ys:Array Value}(h:RW ρ F xs ys){i:Nat}(hx:xs[i]? = none):ys[i]? = none:=by
 rw [Array.getElem?_eq_none_iff] at hx ⊢
 rw [← h.size];exact hx
theorem RW.push{xs ys:Array Value}(h:RW ρ F xs ys){x y:Value}(hv:VRel ρ F x y):RW ρ F (xs.push x) (ys.push y):=by
 refine⟨by simp [h.size],fun i a b ha hb=>?_⟩
 rw [Array.getElem?_push] at ha hb
 rw [← h.size] at hb
 by_cases hi:i=xs.size
 ·simp only [hi,if_true,Option.some.injEq] at ha hb
  subst ha;subst hb;exact hv
 ·simp only [hi,if_false] at ha hb
  exact h.at_ i a b ha hb
theorem RW.append{xs ys us vs:Array Value}(h:RW ρ F xs ys)(k:RW ρ F us vs):RW ρ F (xs++us) (ys++vs):=by
 refine⟨by simp [h.size,k.size],fun i a b ha hb=>?_⟩
 rw [Array.getElem?_append] at ha hb
 rw [← h.size] at hb
 by_cases hi:i<xs.size
 ·simp only [hi,if_true] at ha hb
  exact h.at_ i a b ha hb
 ·simp only [hi,if_false] at ha hb
  exact k.at_ _ a b ha hb
theorem RW.extract{xs ys:Array Value}(h:RW ρ F xs ys)(n m:Nat):RW ρ F (xs.extract n m) (ys.extract n m):=by
 refine⟨by simp [h.size],fun i a b ha hb=>?_⟩
 rw [Array.getElem?_extract] at ha hb
 rw [← h.size] at hb
 by_cases hi:i<min m xs.size-n
 ·simp only [hi,if_true] at ha hb
  exact h.at_ _ a b ha hb
 ·simp only [hi,if_false] at ha;cases ha
theorem RW.set{xs ys:Array Value}(h:RW ρ F xs ys)(i:Nat){x y:Value}(hv:VRel ρ F x y):RW ρ F (xs.setIfInBounds i x) (ys.setIfInBounds i y):=by
 refine⟨by simp [h.size],fun j a b ha hb=>?_⟩
 by_cases hij:i=j
 ·subst hij
  rw [Array.getElem?_setIfInBounds_self] at ha hb
  by_cases hi:i<xs.size
  ·rw [if_pos hi] at ha
   rw [if_pos (h.size ▸ hi)] at hb
   cases ha;cases hb;exact hv
  ·rw [if_neg hi] at ha;cases ha
 ·rw [Array.getElem?_setIfInBounds_ne hij] at ha hb
  exact h.at_ j a b ha hb
theorem RW.replicate(n:Nat){x y:Value}(hv:VRel ρ F x y):RW ρ F (Array.replicate n x) (Array.replicate n y):=by
 refine⟨by simp,fun i a b ha hb=>?_⟩
 rw [Array.getElem?_replicate] at ha hb
 by_cases hi:i<n
 ·simp only [hi,if_true,Option.some.injEq] at ha hb
  subst ha;subst hb;exact hv
 ·simp only [hi,if_false] at ha;cases ha
theorem RW.map{α:Type}(l:Array α){f g:α→Value}(h:∀ x∈l,VRel ρ F (f x) (g x)):RW ρ F (l.map f) (l.map g):=by
 refine⟨by simp,fun i a b ha hb=>?_⟩
 rw [Array.getElem?_map] at ha hb
 obtain⟨x,hx,rfl⟩:=Option.map_eq_some_iff.1 ha
 rw [hx] at hb
 cases hb
 exact h x (Array.mem_of_getElem? hx)
theorem RW.one{x y:Value}(h:VRel ρ F x y):RW ρ F #[x] #[y]:=by simpa using RW.empty.push h
theorem alien_cells{y:Value}(h:alien y=true):y.cells=#[y]:=by
 cases y <;> first | rfl | cases h
theorem VRel.cells{x y:Value}(h:VRel ρ F x y):RW ρ F x.cells y.cells:=by
 cases h with
 | agg h1 h2=>exact⟨h1,h2⟩
 | bool b=>exact .one (.bool b)
 | int k n=>exact .one (.int k n)
 | string s=>exact .one (.string s)
 | ptr0=>exact .one .ptr0
 | ptr h=>exact .one (.ptr h)
 | sl0 n c=>exact .one (.sl0 n c)
 | sl n c h=>exact .one (.sl n c h)
 | slz b=>exact .one (.slz b)
 | bad h=>rw [alien_cells h];exact .one (.bad h)
 | nilFunc=>exact .one .nilFunc
 | func hf h1 h2 h3 h4=>exact .one (.func hf h1 h2 h3 h4)
 | iface t ht h=>exact .one (.iface t ht h)
 | tuple h1 h2=>exact .one (.tuple h1 h2)
def flatV:Nat→Value→Bool
 | 0,_=>false
 | d+1,v=>match v with
  | .bool _ | .int .. | .string _ | .pointer none | .slice none .. | .nilFunc=>true
  | .agg cs | .tuple cs=>cs.all (flatV d)
  | _=>false
theorem flat_rel:∀ (d:Nat) (v:Value),flatV d v=true→VRel ρ F v v
 | 0,v,h=>by simp [flatV] at h
 | d+1,v,h=>by
  unfold flatV at h
  split at h
  ·exact .bool _
  ·exact .int _ _
  ·exact .string _
  ·exact .ptr0
  ·exact .sl0 _ _
  ·exact .nilFunc
  ·rename_i cs
   refine .agg rfl fun i x y hx hy=>?_
   rw [hx] at hy;cases hy
   exact flat_rel d x (Array.all_eq_true_iff_forall_mem.1 h x (Array.mem_of_getElem? hx))
  ·rename_i cs
   refine .tuple rfl fun i x y hx hy=>?_
   rw [hx] at hy;cases hy
   exact flat_rel d x (Array.all_eq_true_iff_forall_mem.1 h x (Array.mem_of_getElem? hx))
  ·cases h
end
end Go.Proofs.YtdoibgmmijhlfaaGreat.Sm
