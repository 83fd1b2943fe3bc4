/- RegionK CloneInts Blks RegionT RulesW1 IRow -/
import Derived.Deep.RegionHeld3
import Derived.Test.YtdoibgmmijhlfaaGreatDoorR00
import Derived.Test.YtdoibgmmijhlfaaGreatDoorRows
import Derived.ProofKit
import Derived.OpenShut
import Derived.Outline
import Derived.Deep.QuietTactic
import Derived.BigQuiet
namespace Go.Proofs.YtdoibgmmijhlfaaGreatDoor
open Go
def openB (D : List Nat) (listed : Array Bool) : Bool:=D.all fun d => !listed.getD d true
theorem openB_set {D : List Nat} {i : Nat} (h : D.contains i=false) (listed : Array Bool) : openB D (listed.setIfInBounds i true)=openB D listed:=by
 unfold openB
 apply Bool.eq_iff_iff.2
 simp only [List.all_eq_true]
 have hne : ∀ d ∈ D,i ≠ d:=fun d hd e => by subst e; simp [hd] at h
 exact ⟨fun k d hd => by rw [← getD_set_ne true (hne d hd)]; exact k d hd,fun k d hd => by rw [getD_set_ne true (hne d hd)]; exact k d hd⟩
section
variable {P : Program} {ops : Array Oper} {Q : Exit→Act→World→Prop} {md : Region.Mode} {T S : World→Prop} {D : List Nat}
def AnyK (P : Program) (md : Region.Mode) (ops : Array Oper) (Q : Exit→Act→World→Prop) (T S : World→Prop) (D : List Nat) : Nat→Array Bool→Act→World→Prop
 | 0,listed,a,w => Region.ready md ops listed=[]∧Q .normal a w
 | fuel + 1,listed,a,w =>
  (Region.ready md ops listed=[]→Q .normal a w) ∧
  ∀ i ∈ Region.ready md ops listed,wpOp P ops Q i (fun a' w' => (T w'∧(openB D (listed.setIfInBounds i true)=true→S w'))∧AnyK P md ops Q T S D fuel (listed.setIfInBounds i true) a' w') a w
theorem any_of_anyK : ∀ (fuel : Nat) (listed : Array Bool) (a : Act) (w : World),AnyK P md ops Q T S D fuel listed a w→wpAny P md ops Q fuel listed a w
 | 0,_,_,_,h => h
 | fuel + 1,_,_,_,h => ⟨h.1,fun i hi => wpOp_mono (fun a' w' h' => any_of_anyK fuel _ a' w' h'.2) (h.2 i hi)⟩
def waitsB (md : Region.Mode) (ops : Array Oper) (D : List Nat) (i : Nat) : Bool :=
 D.all fun d => match ops[d]? with
  | none => true
  | some o => o.after.any fun e => Region.binds md e && e.on == i
theorem waits_not {i j : Nat} {listed : Array Bool} (h : waitsB md ops D i=true) (hj : j ∈ Region.ready md ops listed) (hi : listed.getD i true=false) : D.contains j=false:=by
 cases hc : D.contains j
 ·rfl
 ·exfalso
  have hm : j ∈ D:=by simpa using hc
  obtain ⟨_,o,ho,hall⟩:=mem_ready.1 hj
  have h1:=List.all_eq_true.1 h j hm
  simp only [ho] at h1
  obtain ⟨e,he,hb⟩:=Array.any_eq_true'.1 h1
  simp only [Bool.and_eq_true,beq_iff_eq] at hb
  have h2:=hall e he hb.1
  rw [hb.2] at h2
  rcases Nat.lt_or_ge i listed.size with h' | h'
  ·simp [h'] at hi h2; rw [hi] at h2; cases h2
  ·simp [Array.getElem?_eq_none h'] at hi
theorem anyK_first {i : Nat} {oi : Oper} {v : Value} (s : Bool) (hi : ops[i]? = some oi) (hsel : ∀ (j : Nat) (o : Oper) cs b,ops[j]? = some o→o.op ≠ .select cs b)
  (hQ : ∀ c a w,Q (.panic c) (a.put oi.dst v) w→Q (.panic c) a w) (hiD : D.contains i=false) (hW : s=true→waitsB md ops D i=true) :
  ∀ (fuel : Nat) (listed : Array Bool) (a : Act) (w : World),
   (∀ j oj,ops[j]? = some oj→j ≠ i→listed.getD j true=false→(∀ e ∈ oj.after,Region.binds md e=true→e.on ≠ i)→oi.apart ops oj=true) →
   i ∈ Region.ready md ops listed→YieldsIf P ops (fun w => T w∧(s=true→S w)) oi v a→(T w∧(s=true→S w))→(T w∧(openB D listed=true→S w))→(s=true→openB D listed=true) →
   AnyK P md ops Q T S D fuel (listed.setIfInBounds i true) (a.put oi.dst v) w→AnyK P md ops Q T S D (fuel + 1) listed a w:=by
 intro fuel
 induction fuel with
 | zero =>
  intro listed a w _ hr hy hU hTS hC H
  refine ⟨fun h => (by rw [h] at hr; cases hr),fun j hj => ?_⟩
  by_cases hji : j=i
  ·subst hji
   refine YieldsIf.wpOp (S:=fun w => T w∧(s=true→S w)) hi hy hU ⟨⟨hTS.1,?_⟩,H⟩
   rw [openB_set hiD]
   exact hTS.2
  ·have:=ready_mono hj hji
   rw [H.1] at this
   cases this
 | succ fuel ih =>
  intro listed a w hfree hr hy hU hTS hC H
  refine ⟨fun h => (by rw [h] at hr; cases hr),fun j hj => ?_⟩
  by_cases hji : j=i
  ·subst hji
   refine YieldsIf.wpOp (S:=fun w => T w∧(s=true→S w)) hi hy hU ⟨⟨hTS.1,?_⟩,H⟩
   rw [openB_set hiD]
   exact hTS.2
  ·have h1:=H.2 j (ready_mono hj hji)
   have hi0:=(mem_ready.1 hr).1
   have hjD : s=true→D.contains j=false:=fun h => waits_not (hW h) hj hi0
   obtain ⟨hjun,oj,hoj,hall⟩:=mem_ready.1 hj
   have hnot : ∀ e ∈ oj.after,Region.binds md e=true→e.on ≠ i:=fun e he hb heq => by
    have h1:=hall e he hb
    rw [heq] at h1
    rcases Nat.lt_or_ge i listed.size with h' | h'
    ·simp [h'] at hi0 h1; rw [hi0] at h1; cases h1
    ·simp [Array.getElem?_eq_none h'] at h1
   have h2:=wpOp_putIf hoj (hfree j oj hoj hji hjun hnot) (fun cs b => hsel i oi cs b hi) (fun cs b => hsel j oj cs b hoj) hQ hy h1
   have hfree' : ∀ k ok,ops[k]? = some ok→k ≠ i→(listed.setIfInBounds j true).getD k true=false →
     (∀ e ∈ ok.after,Region.binds md e=true→e.on ≠ i)→oi.apart ops ok=true:=fun k ok hk hki hun hno => by
    refine hfree k ok hk hki ?_ hno
    by_cases hjk : j=k
    ·subst hjk; exact hjun
    ·rw [getD_set_ne true hjk] at hun; exact hun
   have hcm : (listed.setIfInBounds i true).setIfInBounds j true=(listed.setIfInBounds j true).setIfInBounds i true:=Array.setIfInBounds_comm _ _ (Ne.symm hji)
   refine wpOp_mono (fun a' w' h3 => ?_) h2
   obtain ⟨g1,⟨g2,g3⟩,g4⟩:=h3
   rw [hcm] at g3 g4
   rw [openB_set hiD] at g3
   have hC' : s=true→openB D (listed.setIfInBounds j true)=true:=fun h => by rw [openB_set (hjD h)]; exact hC h
   exact ⟨⟨g2,g3⟩,ih (listed.setIfInBounds j true) a' w' hfree' (ready_mono hr (Ne.symm hji)) g1 ⟨g2,fun h => g3 (hC' h)⟩ ⟨g2,g3⟩ hC' g4⟩
theorem anyK_load (i : Nat) {oi : Oper} {v : Value} {fuel : Nat} {listed : Array Bool} {a : Act} {w : World} (hi : ops[i]? = some oi)
  (hs : Region.noSelect ops=true) (hf : Region.free md ops listed i=true) (hr : (Region.ready md ops listed).contains i=true) (hiD : D.contains i=false) (hD : waitsB md ops D i=true) (hO : openB D listed=true)
  (hQ : ∀ c a w,Q (.panic c) (a.put oi.dst v) w→Q (.panic c) a w) (hw : Region.wanted oi (yielded ops a.tmps)=true) (hT : T w) (hS : S w) (hy : ∀ w,T w→S w→(execOp a.eval oi).run P w=.ok (.value v) w)
  (h : AnyK P md ops Q T S D fuel (listed.setIfInBounds i true) (a.put oi.dst v) w) : AnyK P md ops Q T S D (fuel + 1) listed a w :=
 anyK_first true hi (Region.noSelect_spec hs) hQ hiD (fun _ => hD) fuel listed a w (Region.free_spec hi hf) (by simpa using hr) (.inl ⟨hw,fun w h => hy w h.1 (h.2 rfl)⟩) ⟨hT,fun _ => hS⟩ ⟨hT,fun _ => hS⟩ (fun _ => hO) h
theorem anyK_take (i : Nat) {oi : Oper} {v : Value} {fuel : Nat} {listed : Array Bool} {a : Act} {w : World} (hi : ops[i]? = some oi)
  (hs : Region.noSelect ops=true) (hf : Region.free md ops listed i=true) (hr : (Region.ready md ops listed).contains i=true) (hiD : D.contains i=false)
  (hQ : ∀ c a w,Q (.panic c) (a.put oi.dst v) w→Q (.panic c) a w) (hw : Region.wanted oi (yielded ops a.tmps)=true) (hT : T w) (hS : openB D listed=true→S w) (hy : ∀ w,T w→(execOp a.eval oi).run P w=.ok (.value v) w)
  (h : AnyK P md ops Q T S D fuel (listed.setIfInBounds i true) (a.put oi.dst v) w) : AnyK P md ops Q T S D (fuel + 1) listed a w :=
 anyK_first false hi (Region.noSelect_spec hs) hQ hiD (fun h => by cases h) fuel listed a w (Region.free_spec hi hf) (by simpa using hr) (.inl ⟨hw,fun w h => hy w h.1⟩) ⟨hT,fun h => by cases h⟩ ⟨hT,hS⟩ (fun h => by cases h) h
theorem anyK_skip (i : Nat) {oi : Oper} {fuel : Nat} {listed : Array Bool} {a : Act} {w : World} (hi : ops[i]? = some oi)
  (hs : Region.noSelect ops=true) (hf : Region.free md ops listed i=true) (hr : (Region.ready md ops listed).contains i=true) (hiD : D.contains i=false)
  (hQ : ∀ c a w,Q (.panic c) (a.put oi.dst undef) w→Q (.panic c) a w) (hw : Region.wanted oi (yielded ops a.tmps)=false) (hT : T w) (hS : openB D listed=true→S w)
  (h : AnyK P md ops Q T S D fuel (listed.setIfInBounds i true) (a.put oi.dst undef) w) : AnyK P md ops Q T S D (fuel + 1) listed a w :=
 anyK_first false hi (Region.noSelect_spec hs) hQ hiD (fun h => by cases h) fuel listed a w (Region.free_spec hi hf) (by simpa using hr) (.inr ⟨hw,rfl⟩) ⟨hT,fun h => by cases h⟩ ⟨hT,hS⟩ (fun h => by cases h) h
theorem anyK_on {fuel : Nat} {listed : Array Bool} {a : Act} {w : World} (rs : List Nat) (hr : Region.ready md ops listed=rs) (hne : rs ≠ [])
  (h : ∀ i ∈ rs,wpOp P ops Q i (fun a' w' => (T w'∧(openB D (listed.setIfInBounds i true)=true→S w'))∧AnyK P md ops Q T S D fuel (listed.setIfInBounds i true) a' w') a w) : AnyK P md ops Q T S D (fuel + 1) listed a w :=
 ⟨fun h0 => absurd (hr ▸ h0) hne,hr ▸ h⟩
theorem anyK_on1 {fuel : Nat} {listed : Array Bool} {a : Act} {w : World} (i : Nat) (hr : Region.ready md ops listed=[i])
  (h : wpOp P ops Q i (fun a' w' => (T w'∧(openB D (listed.setIfInBounds i true)=true→S w'))∧AnyK P md ops Q T S D fuel (listed.setIfInBounds i true) a' w') a w) : AnyK P md ops Q T S D (fuel + 1) listed a w :=
 anyK_on [i] hr (by simp) (fun j hj => by
  obtain rfl : j=i:=by simpa using hj
  exact h)
theorem anyK_on2 {fuel : Nat} {listed : Array Bool} {a : Act} {w : World} (i j : Nat) (hr : Region.ready md ops listed=[i,j])
  (h : wpOp P ops Q i (fun a' w' => (T w'∧(openB D (listed.setIfInBounds i true)=true→S w'))∧AnyK P md ops Q T S D fuel (listed.setIfInBounds i true) a' w') a w)
  (h2 : wpOp P ops Q j (fun a' w' => (T w'∧(openB D (listed.setIfInBounds j true)=true→S w'))∧AnyK P md ops Q T S D fuel (listed.setIfInBounds j true) a' w') a w) : AnyK P md ops Q T S D (fuel + 1) listed a w :=
 anyK_on [i,j] hr (by simp) (fun k hk => by
  rcases List.mem_cons.1 hk with rfl | hk
  ·exact h
  ·obtain rfl : k=j:=by simpa using hk
   exact h2)
theorem anyK_one {fuel : Nat} {listed : Array Bool} {a : Act} {w : World} (i : Nat) {o : Oper} (ho : ops[i]? = some o)
  (h : ∀ K' : Act→World→Prop,Shut (∀ a w,T w→(openB D (listed.setIfInBounds i true)=true→S w)→AnyK P md ops Q T S D fuel (listed.setIfInBounds i true) a w→K' a w)→if Region.wanted o (yielded ops a.tmps)=true then Oper.wp P o a w K' Q else K' (a.put o.dst undef) w) :
  wpOp P ops Q i (fun a' w' => (T w'∧(openB D (listed.setIfInBounds i true)=true→S w'))∧AnyK P md ops Q T S D fuel (listed.setIfInBounds i true) a' w') a w :=
 wpOp_step ho (fun K' hK => h K' (fun a w hT hS hW => hK a w ⟨⟨hT,hS⟩,hW⟩))
theorem anyK_done {listed : Array Bool} {a : Act} {w : World} (hr : Region.ready md ops listed=[]) (h : Q .normal a w) : ∀ fuel,AnyK P md ops Q T S D fuel listed a w
 | 0 => ⟨hr,h⟩
 | _ + 1 => ⟨fun _ => h,by rw [hr]; simp⟩
theorem region_K {id : Nat} {a : Act} {w : World} (T S : World→Prop) (D : List Nat) (hm : P.follows .mixedOrders=true)
  (h : AnyK P .any ops Q T S D ops.size (Array.replicate ops.size false) a w.drew) : (Code.region id ops true).wp P Q a w :=
 wp_region_any hm (any_of_anyK _ _ _ _ h)
end
end Go.Proofs.YtdoibgmmijhlfaaGreatDoor
namespace Go.Proofs.YtdoibgmmijhlfaaGreatDoor
open Go.ChangeShapes Go.WideShapes Go.ChangeAt Go.RowKit
set_option linter.unusedVariables false
theorem intInfo : (Tryz.prog.info? 3).map (fun i => (i.zero,i.size,i.bytes))=some (some (.int .i64 0),1,8):=by kernel_rfl
def OwnInts (w : World) (zs : List Int) (e : Ending) (w' : World) : Prop:=∃ A c,e=.returned (.slice A zs.length c)∧w'.ownsRow w.heap.size 3 1 (.slice A zs.length c) zs.length (zs.map (Value.int .i64))∧Ext w w'
theorem cloneInts_any (A : Option Addr) (n c : Nat) (zs : List Int) (w : World) (hn : zs.length=n) (hm : n≤2 ^ 40) (hA : A=none→n=0) (hz : IntsAt w A zs) :
  Calls Tryz.prog 68 #[.slice A n c] w (OwnInts w zs):=by
 subst hn
 have hnil:=fun W => Lib.run_eql_slice_nil (P:=Tryz.prog) W 23 3 A zs.length c 0 0 Tryz.underlying23
 obtain ⟨i0,hi,hz0,hz1,hz2⟩:=info_parts intInfo
 cases A with
 | none =>
  have h0 : zs=[]:=List.eq_nil_of_length_eq_zero (hA rfl)
  subst h0
  simp only [List.length_nil] at hnil ⊢
  go_enter Tryz.func68,Tryz.ntmps68
  go_wp2
  go_ret
  exact ⟨none,0,rfl,World.ownsRow_nil _ _ _ _,Below.refl _ _⟩
 | some ad =>
  have hcs:=ints_cells hz
  clear hA
  have hown:=World.ownsRow_made w #[] 0 (base:=w.heap.size) (e:=3) (size:=1) (Nat.le_refl _) (by simp [maxLen]) rfl
  go_enter Tryz.func68,Tryz.ntmps68
  go_wp2_with (at_builtin; refine wpList_append_cells _ rfl (.tmp 5) (.tmp 6) 23 rfl w.heap.size 3 i0 (.int .i64 0) 1 8 Tryz.underlying23 hi hz0 hz1 hz2 rfl (by decide) _ 0 [] rfl hown (some ad) zs.length c (zs.map (Value.int .i64)) rfl (by simp) (hcs.ext (ext_alloc (Below.refl _ _) _)) (one_ints zs) (by simp only [maxLen]; omega) (by omega) (by simp) (by simp) ?_; intro v' w1 hown1 hgrow)
  obtain ⟨A',c',rfl,_,_⟩:=own_shape hown1
  go_ret
  simp only [Nat.zero_add,List.nil_append] at hown1
  refine ⟨A',c',by simp,hown1,ext_grown (ext_alloc (Below.refl _ _) _) hgrow (own_row hown)⟩
end Go.Proofs.YtdoibgmmijhlfaaGreatDoor
namespace Go.Proofs.YtdoibgmmijhlfaaGreatDoor
open Go.RowKit
theorem blks1 (w : World) (c1 : Array Value) (t1 : TypeId) : Ext w (w.alloc (.cells c1 t1))∧Blk (w.alloc (.cells c1 t1)) w.heap.size t1 c1:=⟨ext_alloc (Below.refl _ _) _,Blk.new _ _ _⟩
theorem blks2 (w : World) (c1 : Array Value) (t1 : TypeId) (c2 : Array Value) (t2 : TypeId) :
  Ext w ((w.alloc (.cells c1 t1)).alloc (.cells c2 t2))∧Blk ((w.alloc (.cells c1 t1)).alloc (.cells c2 t2)) w.heap.size t1 c1∧Blk ((w.alloc (.cells c1 t1)).alloc (.cells c2 t2)) (w.heap.size + 1) t2 c2:=by
 have h:=Blk.new (w.alloc (.cells c1 t1)) t2 c2
 rw [show (w.alloc (.cells c1 t1)).heap.size=w.heap.size + 1 from by simp] at h
 exact ⟨ext_alloc (ext_alloc (Below.refl _ _) _) _,(Blk.new w t1 c1).alloc _,h⟩
theorem blks3 (w : World) (c1 : Array Value) (t1 : TypeId) (c2 : Array Value) (t2 : TypeId) (c3 : Array Value) (t3 : TypeId) :
  Ext w (((w.alloc (.cells c1 t1)).alloc (.cells c2 t2)).alloc (.cells c3 t3))∧Blk (((w.alloc (.cells c1 t1)).alloc (.cells c2 t2)).alloc (.cells c3 t3)) w.heap.size t1 c1 ∧
   Blk (((w.alloc (.cells c1 t1)).alloc (.cells c2 t2)).alloc (.cells c3 t3)) (w.heap.size + 1) t2 c2∧Blk (((w.alloc (.cells c1 t1)).alloc (.cells c2 t2)).alloc (.cells c3 t3)) (w.heap.size + 1 + 1) t3 c3:=by
 obtain ⟨h1,h2,h3⟩:=blks2 w c1 t1 c2 t2
 have h:=Blk.new ((w.alloc (.cells c1 t1)).alloc (.cells c2 t2)) t3 c3
 rw [show ((w.alloc (.cells c1 t1)).alloc (.cells c2 t2)).heap.size=w.heap.size + 1 + 1 from by simp] at h
 exact ⟨ext_alloc h1 _,h2.alloc _,h3.alloc _,h⟩
end Go.Proofs.YtdoibgmmijhlfaaGreatDoor
/- The steps of a region that draws its order, with what a machine finds by itself left out. -/
namespace Go.Proofs.YtdoibgmmijhlfaaGreatDoor
open Go
section
variable {P : Program} {Q : Exit→Act→World→Prop} {md : Region.Mode} {T S : World→Prop} {D : List Nat}
theorem tk (i : Nat) {l : List Oper} {oi : Oper} {v : Value} {fuel : Nat} {listed : Array Bool} {a a' : Act} {w : World} (hT : T w) (hS : openB D listed=true→S w)
    (h : AnyK P md l.toArray Q T S D fuel (listed.setIfInBounds i true) a' w) (hi : l[i]? = some oi:=by rfl)
    (hy : ∀ w,T w→(execOp a.eval oi).run P w=.ok (.value v) w:=by intro W hW; go_simp; first | done | with_reducible rfl)
    (hp : a.put oi.dst v=a':=by first | (simp only [Act.put,List.setIfInBounds_toArray,List.set_cons_zero,List.set_cons_succ]; done) | (simp only [Act.put,List.setIfInBounds_toArray,List.set_cons_zero,List.set_cons_succ]; rfl) | rfl)
    (hs : Region.noSelect l.toArray=true:=by kernel_rfl) (hf : Region.free md l.toArray listed i=true:=by kernel_rfl) (hr : (Region.ready md l.toArray listed).contains i=true:=by kernel_rfl) (hiD : D.contains i=false:=by kernel_rfl)
    (hQ : ∀ c a w,Q (.panic c) (a.put oi.dst v) w→Q (.panic c) a w:=by exact fun _ _ _ h => h) (hw : Region.wanted oi (yielded l.toArray a.tmps)=true:=by rfl) : AnyK P md l.toArray Q T S D (fuel + 1) listed a w :=
  anyK_take i (by simpa using hi) hs hf hr hiD hQ hw hT hS hy (hp ▸ h)
theorem tl (i : Nat) {l : List Oper} {oi : Oper} {v : Value} {fuel : Nat} {listed : Array Bool} {a a' : Act} {w : World} (hT : T w) (hS : openB D listed=true→S w)
    (hy : ∀ w,T w→(execOp a.eval oi).run P w=.ok (.value v) w) (h : AnyK P md l.toArray Q T S D fuel (listed.setIfInBounds i true) a' w) (hi : l[i]? = some oi:=by rfl)
    (hp : a.put oi.dst v=a':=by first | (simp only [Act.put,List.setIfInBounds_toArray,List.set_cons_zero,List.set_cons_succ]; done) | (simp only [Act.put,List.setIfInBounds_toArray,List.set_cons_zero,List.set_cons_succ]; rfl) | rfl)
    (hs : Region.noSelect l.toArray=true:=by kernel_rfl) (hf : Region.free md l.toArray listed i=true:=by kernel_rfl) (hr : (Region.ready md l.toArray listed).contains i=true:=by kernel_rfl) (hiD : D.contains i=false:=by kernel_rfl)
    (hQ : ∀ c a w,Q (.panic c) (a.put oi.dst v) w→Q (.panic c) a w:=by exact fun _ _ _ h => h) (hw : Region.wanted oi (yielded l.toArray a.tmps)=true:=by rfl) : AnyK P md l.toArray Q T S D (fuel + 1) listed a w :=
  anyK_take i (by simpa using hi) hs hf hr hiD hQ hw hT hS hy (hp ▸ h)
theorem sk (i : Nat) {l : List Oper} {oi : Oper} {fuel : Nat} {listed : Array Bool} {a a' : Act} {w : World} (hT : T w) (hS : openB D listed=true→S w)
    (h : AnyK P md l.toArray Q T S D fuel (listed.setIfInBounds i true) a' w) (hi : l[i]? = some oi:=by rfl)
    (hp : a.put oi.dst undef=a':=by first | (simp only [Act.put,List.setIfInBounds_toArray,List.set_cons_zero,List.set_cons_succ]; done) | (simp only [Act.put,List.setIfInBounds_toArray,List.set_cons_zero,List.set_cons_succ]; rfl) | rfl)
    (hs : Region.noSelect l.toArray=true:=by kernel_rfl) (hf : Region.free md l.toArray listed i=true:=by kernel_rfl) (hr : (Region.ready md l.toArray listed).contains i=true:=by kernel_rfl) (hiD : D.contains i=false:=by kernel_rfl)
    (hQ : ∀ c a w,Q (.panic c) (a.put oi.dst undef) w→Q (.panic c) a w:=by exact fun _ _ _ h => h) (hw : Region.wanted oi (yielded l.toArray a.tmps)=false:=by rfl) : AnyK P md l.toArray Q T S D (fuel + 1) listed a w :=
  anyK_skip i (by simpa using hi) hs hf hr hiD hQ hw hT hS (hp ▸ h)
theorem tw {l : List Oper} {fuel : Nat} {listed : Array Bool} {a : Act} {w : World} (i : Nat) {o : Oper}
    (h : ∀ K' : Act→World→Prop,Shut (∀ a w,T w→(openB D (listed.setIfInBounds i true)=true→S w)→AnyK P md l.toArray Q T S D fuel (listed.setIfInBounds i true) a w→K' a w)→if Region.wanted o (yielded l.toArray a.tmps)=true then Oper.wp P o a w K' Q else K' (a.put o.dst undef) w) (ho : l[i]? = some o:=by rfl) :
    wpOp P l.toArray Q i (fun a' w' => (T w'∧(openB D (listed.setIfInBounds i true)=true→S w'))∧AnyK P md l.toArray Q T S D fuel (listed.setIfInBounds i true) a' w') a w :=
  anyK_one i (by simpa using ho) h
end
end Go.Proofs.YtdoibgmmijhlfaaGreatDoor
namespace Go.Proofs.YtdoibgmmijhlfaaGreatDoor
open Go.ChangeShapes Go.WideShapes Go.ChangeAt Go.RowKit
set_option linter.unusedVariables false
theorem within_any (n lo hi : Int) (w : World) :
  Calls Tryz.prog 51 #[.int .i64 n,.int .i64 lo,.int .i64 hi] w fun e w' => e=.returned (.bool (inB n lo hi))∧w=w':=by
 unfold inB
 by_cases h1 : lo≤n
 ·by_cases h2 : n≤hi
  ·go_enter Tryz.func51,Tryz.ntmps51
   go_wp2
   go_ret
   exact ⟨by simp [h1,h2],rfl⟩
  ·go_enter Tryz.func51,Tryz.ntmps51
   go_wp2
   go_ret
   exact ⟨by simp; omega,rfl⟩
 ·go_enter Tryz.func51,Tryz.ntmps51
  go_wp2
  go_ret
  exact ⟨by simp; omega,rfl⟩
theorem pieces1_any (l l0 h0 p0 : Int) (hd pr : Int) (v : Value) (a : Addr) (w : World) (hc : w.cell? a=some (.int .u8 l)) (ha : a.spot=none) :
  Calls Tryz.prog 87 #[.agg #[.int .u8 l0,.int .i64 h0,.int .i64 p0,v],.pointer (some a)] w fun e w' => e=.returned (.bool (l0 == l))∧Ext w w':=by
 obtain ⟨b,o,s⟩:=a
 obtain rfl : s=none:=ha
 have hlt:=lt_of_cell hc
 go_enter Tryz.func87,Tryz.ntmps87
 go_wp2
 go_ret
 exact ⟨rfl,ext_alloc (Below.refl _ _) _⟩
end Go.Proofs.YtdoibgmmijhlfaaGreatDoor
namespace Go.Proofs.YtdoibgmmijhlfaaGreatDoor
open Go.RowKit
def IRow (w : World) (g : Nat) (zs : List Int) : Prop:=∃ cur : Array Value,w.heap[g]? = some (.cells cur 3 (0,0))∧cur.toList.take zs.length=zs.map (Value.int .i64)
section
variable {w w' : World} {g : Nat} {zs : List Int}
theorem IRow.lt (h : IRow w g zs) : g < w.heap.size:=by
 obtain ⟨cur,h,_⟩:=h
 exact (Array.getElem?_eq_some_iff.1 h).1
theorem IRow.cell (h : IRow w g zs) {i : Nat} (hi : i < zs.length) : w.cell? ⟨g,i,none⟩=some (.int .i64 (zs.getD i 0)):=by
 obtain ⟨cur,h,ht⟩:=h
 rw [cell_of_row _ _ _ cur 3 (0,0) h]
 have e : (cur.toList.take zs.length)[i]? = (zs.map (Value.int .i64))[i]?:=by rw [ht]
 rw [List.getElem?_take,if_pos hi] at e
 simp [hi] at e
 simp [hi,e]
theorem IRow.frozen (h : IRow w g zs) (i : Nat) : w.frozen? ⟨g,i,none⟩=false:=by
 obtain ⟨cur,h,_⟩:=h
 simp [World.frozen?,h]
theorem IRow.ints (h : IRow w g zs) : IntsAt w (some ⟨g,0,none⟩) zs:=fun i hi => ⟨g,0,rfl,by rw [Nat.zero_add]; exact h.cell hi⟩
theorem IRow.far (h : IRow w g zs) {p : Addr} (hp : g ≠ p.block) (u : Value) : IRow (w.setCell p u) g zs:=by
 obtain ⟨cur,h,ht⟩:=h
 exact ⟨cur,(Below.heap_setCell w p u g hp).trans h,ht⟩
theorem IRow.ext (h : IRow w g zs) (he : Ext w w') : IRow w' g zs:=by
 obtain ⟨cur,h,ht⟩:=h
 exact ⟨cur,(he.block g (Array.getElem?_eq_some_iff.1 h).1).trans h,ht⟩
theorem IRow.same (h : IRow w g zs) (he : w'.heap[g]? = w.heap[g]?) : IRow w' g zs:=by
 obtain ⟨cur,h,ht⟩:=h
 exact ⟨cur,he.trans h,ht⟩
theorem IRow.drew (h : IRow w g zs) : IRow w.drew g zs:=h
theorem IRow.alloc (h : IRow w g zs) (o : Obj) : IRow (w.alloc o) g zs:=h.ext (ext_alloc (Below.refl _ _) o)
theorem IRow.set_ (h : IRow w g zs) (i : Nat) (u : Int) : IRow (w.setCell ⟨g,i,none⟩ (.int .i64 u)) g (zs.set i u):=by
 obtain ⟨cur,h,ht⟩:=h
 refine ⟨cur.setIfInBounds i (.int .i64 u),?_,?_⟩
 ·simp [World.setCell,Array.getElem?_modify,h]
 ·rw [List.length_set,List.map_set,← ht,Array.toList_setIfInBounds,List.take_set]
end
theorem own_irow {w : World} {B n c : Nat} {A : Option Addr} {zs : List Int} (h : w.ownsRow B 3 1 (.slice A n c) n (zs.map (Value.int .i64))) (hn : zs.length=n) (h1 : 1≤n) : ∃ g,A=some ⟨g,0,none⟩∧B≤g∧IRow w g zs∧n≤c:=by
 have hc:=own_cap h
 rcases h.2 with ⟨e1,e2⟩ | ⟨g,cap,cur,e1,hb,hg,_,_,_,ht⟩
 ·omega
 ·injection e1 with a b c
  subst a
  refine ⟨g,rfl,hb,⟨cur,hg,?_⟩,hc⟩
  rw [← ht]
  simp [hn]
def PosOwn (w : World) (B : Nat) (v : Value) (P : PosM) : Prop :=
 ∃ g0 c0 g1 c1 g2 c2,v=.agg #[.slice (some ⟨g0,0,none⟩) P.cells.length c0,.slice (some ⟨g1,0,none⟩) P.hand0.length c1,.slice (some ⟨g2,0,none⟩) P.hand1.length c2,.int .i64 P.turn,.int .i64 P.quiet] ∧
  B≤g0∧g0 < g1∧g1 < g2∧IRow w g0 P.cells∧IRow w g1 P.hand0∧IRow w g2 P.hand1∧P.cells.length≤c0∧P.hand0.length≤c1∧P.hand1.length≤c2
theorem PosOwn.at_ {w : World} {B : Nat} {v : Value} {P : PosM} (h : PosOwn w B v P) : PosAt w v P:=by
 obtain ⟨g0,c0,g1,c1,g2,c2,e,-,-,-,r0,r1,r2,h⟩:=h
 exact ⟨_,c0,_,c1,_,c2,e,r0.ints,r1.ints,r2.ints,h⟩
theorem blk_put {w : World} {g i : Nat} {t : TypeId} {cs cs' : Array Value} {u : Value} (h : Blk w g t cs) (e : cs.setIfInBounds i u=cs') : Blk (w.setCell ⟨g,i,none⟩ u) g t cs':=by
 have:=h.set_ i u
 rwa [e] at this
end Go.Proofs.YtdoibgmmijhlfaaGreatDoor
