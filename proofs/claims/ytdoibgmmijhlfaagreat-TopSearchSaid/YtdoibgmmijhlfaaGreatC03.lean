/- RulesW5 RegionK RegionT ZobMix Three Fine -/
import Derived.Test.YtdoibgmmijhlfaaGreatC00
import Derived.Deep.RegionHeld3
import Derived.Laws.BitsLemmas
namespace Go.Proofs.YtdoibgmmijhlfaaGreat
open Go.ChangeShapes Go.WideShapes Go.ChangeAt Go.RowKit
set_option linter.unusedVariables false
theorem endE_get{n:Nat}{es:List EndM}{k:Nat}{x:EndM}(h:es[k]? = some x):endE n es k=(
  if x.kind=0 then (if inB x.count 1 64 && decide (x.piece=0) then 0 else 4)
  else if x.kind=1 then (if decide (x.count=0) && inB x.piece 0 (n-1) then 0 else 4)
  else if x.kind=2 then (if inB x.count 1 64 && inB x.piece 0 (n-1) then 0 else 4)
  else 1):=by
 unfold endE
 rw [h]
theorem endsE_at{n:Nat}{es:List EndM}{k:Nat}{c:Int}(h6:¬ 6<es.length)(hz:∀ j,j<k→endE n es j=0)(hk:k<es.length)(hc:endE n es k=c)(h:c≠0):endsE n es=c:=by
 unfold endsE
 rw [if_neg h6,firstE_eq (endE n es) es.length 0 k (fun j _ hj=>hz j hj) (Nat.zero_le _) (by omega) (by rw [hc];exact h),hc]
theorem endsE_all{n:Nat}{es:List EndM}(h6:¬ 6<es.length)(hz:∀ j,j<es.length→endE n es j=0):endsE n es=0:=by
 unfold endsE
 rw [if_neg h6]
 exact(firstE_zero _ _ _).2 (fun j _ hj=>hz j (by omega))
def ECode(c:Int)(w:World)(e:Ending)(w':World):Prop:=e=.returned (.int .i64 c)∧Ext w w'
theorem conds_many(v0 v1 v2 v3 v4 v5 v6 v8 v9 v10:Value)(A:Option Addr)(n c:Nat)(w:World)(h:6<n) :
  Calls Crz.prog 87 #[.agg #[v0,v1,v2,v3,v4,v5,v6,.slice A n c,v8,v9,v10]] w (ECode 2 w):=by
 go_enter Crz.func87,Tryz.ntmps87
 go_wp2
 go_ret
 exact⟨rfl,qA (Below.refl _ _) _⟩
theorem quiet_left{P:Program}{f:FuncId}{args:Array Value}{w:World}{n:Nat}{v:Value}
  (h:Calls P f args (w.drewN n) fun e w'=>e=.returned v∧w.drewN n=w'):Calls P f args (w.drewN n) fun e w'=>e=.returned v∧∃ m,w'=w.drewN m :=
 h.mono fun _ _ ⟨he,hm⟩=>⟨he,n,hm.symm⟩
set_option maxHeartbeats 4000000 in
theorem conds_any(v0 v1 v2 v4 v5 v6 v8 v9 v10:Value)(pA:Option Addr)(m mc:Nat)(A:Option Addr)(n c:Nat)(es:List EndM)(w:World)(hn:es.length=n)(hn6:n≤6)(hm:m≤6)(hm1:1≤m)(hp:EndsAt w A es) :
  Calls Crz.prog 87 #[.agg #[v0,v1,v2,.slice pA m mc,v4,v5,v6,.slice A n c,v8,v9,v10]] w (ECode (endsE m es) w):=by
 have HN:=hide hn
 have HE:Hid (∀ k c,(∀ j,j<k→endE m es j=0)→k<n→endE m es k=c→c≠0→endsE m es=c):=hide (fun k c hz hk hc h=>endsE_at (by omega) hz (by omega) hc h)
 have HA:Hid ((∀ j,j<n→endE m es j=0)→endsE m es=0):=hide (fun hz=>endsE_all (by omega) (by rw [hn];exact hz))
 clear hn
 generalize endsE m es=E at *
 go_enter Crz.func87,Tryz.ntmps87
 go_wp2
 have x1:Ext w (w.alloc (.cells #[v0,v1,v2,.slice pA m mc,v4,v5,v6,.slice A n c,v8,v9,v10] 26)):=qA (Below.refl _ _) _
 have f3:(w.alloc (.cells #[v0,v1,v2,.slice pA m mc,v4,v5,v6,.slice A n c,v8,v9,v10] 26)).cell? ⟨w.heap.size,3,none⟩=some (.slice pA m mc):=nC _ _ _ 3
 have hp1:=CellsAt.ext hp x1
 clear hp
 generalize w.alloc _=w1 at *
 generalize w.heap.size=B at *
 go_loopw [4,14] (fun _ i wr=>∃ k:Nat,k≤n∧i=.int .i64 k∧Hid (∀ j,j<k→endE m es j=0)∧Ext w1 wr) (fun _ i _=>n-(intOf i).toNat)
 case atStart=>exact⟨0,Nat.zero_le _,rfl,hide (fun j hj=>by omega),Below.refl _ _⟩
 case round =>
  obtain⟨k,hk,rfl,hz,hext⟩:=hrel
  by_cases hlt:k<n
  ·have hkl:k<es.length:=by rw [HN.out];exact hlt
   have hget:es[k]? = some es[k]:=List.getElem?_eq_getElem hkl
   obtain⟨b,o,rfl,c0,c1,c2,c3⟩:=EndsAt.get (CellsAt.ext hp1 hext) hget
   have HP:=hide (endE_get (n:=m) hget)
   clear hget
   generalize es[k]=q at *
   have G3:=Ext.cell (qA hext (.cells #[.int .i64 q.kind,.int .i64 q.piece,.int .i64 q.count,.bool q.loses] 75)) f3
   have e2:(wr.alloc (.cells #[.int .i64 q.kind,.int .i64 q.piece,.int .i64 q.count,.bool q.loses] 75)).cell? ⟨wr.heap.size,2,none⟩=some (.int .i64 q.count):=nC _ _ _ 2
   have e1:(wr.alloc (.cells #[.int .i64 q.kind,.int .i64 q.piece,.int .i64 q.count,.bool q.loses] 75)).cell? ⟨wr.heap.size,1,none⟩=some (.int .i64 q.piece):=nC _ _ _ 1
   have e0:(wr.alloc (.cells #[.int .i64 q.kind,.int .i64 q.piece,.int .i64 q.count,.bool q.loses] 75)).cell? ⟨wr.heap.size,0,none⟩=some (.int .i64 q.kind):=nC _ _ _ 0
   clear f3 hp1
   by_cases hk0:q.kind=0
   ·have t0:(q.kind == 0)=true:=by simpa using hk0
    cases hcb:inB q.count 1 64
    ·skip
     have HF:=hide (HE.out k 4 hz.out hlt (HP.out.trans (by simp [hk0,hcb])) (by omega))
     clear HP HE HA hz hk0
     go_wp2_with fail
     go_quiet ((go_at_call 83;exact quiet_left (qW _ _ _ _)))
     go_wp2
     go_ret
     exact⟨by rw [HF.out];rfl,qT x1 (qD (qA hext _) _)⟩
    ·skip
     by_cases hpz:q.piece=0
     ·have tp:(q.piece == 0)=true:=by simpa using hpz
      have HK:Hid (∀ i,i<k+1→endE m es i=0):=hide (fun i hi=>by
       by_cases e:i=k
       ·subst e;exact HP.out.trans (by simp [hk0,hcb,hpz])
       ·exact hz.out i (by omega))
      clear HP HE HA hz hk0 hpz
      go_wp2_with fail
      go_quiet ((go_at_call 83;exact quiet_left (qW _ _ _ _)))
      go_wp2
      go_roundw
      case rel=>exact⟨k+1,by omega,by go_num,HK,qD (qA hext _) _⟩
      case measure=>simp [intOf];omega
     ·have tp:(q.piece == 0)=false:=by simpa using hpz
      have HF:=hide (HE.out k 4 hz.out hlt (HP.out.trans (by simp [hk0,hcb,hpz])) (by omega))
      clear HP HE HA hz hk0 hpz
      go_wp2_with fail
      go_quiet ((go_at_call 83;exact quiet_left (qW _ _ _ _)))
      go_wp2
      go_ret
      exact⟨by rw [HF.out];rfl,qT x1 (qD (qA hext _) _)⟩
   ·have t0:(q.kind == 0)=false:=by simpa using hk0
    by_cases hk1:q.kind=1
    ·have t1:(q.kind == 1)=true:=by simpa using hk1
     by_cases hcz:q.count=0
     ·have tc:(q.count == 0)=true:=by simpa using hcz
      cases hpb:inB q.piece 0 ((m:Int)-1)
      ·skip
       have HF:=hide (HE.out k 4 hz.out hlt (HP.out.trans (by simp [hk1,hcz,hpb])) (by omega))
       clear HP HE HA hz hk0 hk1 hcz
       go_wp2_with fail
       go_quiet ((go_at_call 83;exact quiet_left (qW _ _ _ _)))
       go_wp2
       go_ret
       exact⟨by rw [HF.out];rfl,qT x1 (qD (qA hext _) _)⟩
      ·skip
       have HK:Hid (∀ i,i<k+1→endE m es i=0):=hide (fun i hi=>by
        by_cases e:i=k
        ·subst e;exact HP.out.trans (by simp [hk1,hcz,hpb])
        ·exact hz.out i (by omega))
       clear HP HE HA hz hk0 hk1 hcz
       go_wp2_with fail
       go_quiet ((go_at_call 83;exact quiet_left (qW _ _ _ _)))
       go_wp2
       go_roundw
       case rel=>exact⟨k+1,by omega,by go_num,HK,qD (qA hext _) _⟩
       case measure=>simp [intOf];omega
     ·have tc:(q.count == 0)=false:=by simpa using hcz
      have HF:=hide (HE.out k 4 hz.out hlt (HP.out.trans (by simp [hk1,hcz])) (by omega))
      clear HP HE HA hz hk0 hk1 hcz
      go_wp2_with fail
      go_quiet ((go_at_call 83;exact quiet_left (qW _ _ _ _)))
      go_wp2
      go_ret
      exact⟨by rw [HF.out];rfl,qT x1 (qD (qA hext _) _)⟩
    ·have t1:(q.kind == 1)=false:=by simpa using hk1
     by_cases hk2:q.kind=2
     ·have t2:(q.kind == 2)=true:=by simpa using hk2
      cases hcb:inB q.count 1 64
      ·skip
       have HF:=hide (HE.out k 4 hz.out hlt (HP.out.trans (by simp [hk2,hcb])) (by omega))
       clear HP HE HA hz hk0 hk1 hk2
       go_wp2_with fail
       go_quiet ((go_at_call 83;exact quiet_left (qW _ _ _ _)))
       go_wp2
       go_ret
       exact⟨by rw [HF.out];rfl,qT x1 (qD (qA hext _) _)⟩
      ·skip
       cases hpb:inB q.piece 0 ((m:Int)-1)
       ·skip
        have HF:=hide (HE.out k 4 hz.out hlt (HP.out.trans (by simp [hk2,hcb,hpb])) (by omega))
        clear HP HE HA hz hk0 hk1 hk2
        go_wp2_with fail
        go_quiet ((go_at_call 83;exact quiet_left (qW _ _ _ _)))
        go_wp2
        go_ret
        exact⟨by rw [HF.out];rfl,qT x1 (qD (qA hext _) _)⟩
       ·skip
        have HK:Hid (∀ i,i<k+1→endE m es i=0):=hide (fun i hi=>by
         by_cases e:i=k
         ·subst e;exact HP.out.trans (by simp [hk2,hcb,hpb])
         ·exact hz.out i (by omega))
        clear HP HE HA hz hk0 hk1 hk2
        go_wp2_with fail
        go_quiet ((go_at_call 83;exact quiet_left (qW _ _ _ _)))
        go_wp2
        go_roundw
        case rel=>exact⟨k+1,by omega,by go_num,HK,qD (qA hext _) _⟩
        case measure=>simp [intOf];omega
     ·have t2:(q.kind == 2)=false:=by simpa using hk2
      have HF:=hide (HE.out k 1 hz.out hlt (HP.out.trans (by simp [hk0,hk1,hk2])) (by omega))
      clear HP HE HA hz hk0 hk1 hk2
      go_wp2_with fail
      go_quiet ((go_at_call 83;exact quiet_left (qW _ _ _ _)))
      go_wp2
      go_ret
      exact⟨by rw [HF.out];rfl,qT x1 (qD (qA hext _) _)⟩
  ·obtain rfl:k=n:=by omega
   have HZ:=hide (HA.out hz.out)
   clear hz hp1
   go_wp2
   go_ret
   exact⟨by rw [HZ.out];rfl,qT x1 hext⟩
end Go.Proofs.YtdoibgmmijhlfaaGreat
namespace Go.Proofs.YtdoibgmmijhlfaaGreat
open Go
def openB(D:List Nat)(listed:Array Bool):Bool:=D.all fun d=>!listed.getD d true
theorem openB_set{D:List Nat}{i:Nat}(h:D.contains i=false)(listed:Array Bool):openB D (listed.setIfInBounds i true)=openB D listed:=by
 unfold openB
 apply Bool.eq_iff_iff.2
 simp only [List.all_eq_true]
 have hne:∀ d∈D,i≠d:=fun d hd e=>by subst e;simp [hd] at h
 exact⟨fun k d hd=>by rw [← getD_set_ne true (hne d hd)];exact k d hd,fun k d hd=>by rw [getD_set_ne true (hne d hd)];exact k d hd⟩
section
variable {P:Program}{ops:Array Oper}{Q:Exit→Act→World→Prop}{md:Region.Mode}{T S:World→Prop}{D:List Nat}
def AnyK(P:Program)(md:Region.Mode)(ops:Array Oper)(Q:Exit→Act→World→Prop)(T S:World→Prop)(D:List Nat):Nat→Array Bool→Act→World→Prop
 | 0,listed,a,w=>Region.ready md ops listed=[]∧Q .normal a w
 | fuel+1,listed,a,w =>
  (Region.ready md ops listed=[]→Q .normal a w) ∧
  ∀ i∈Region.ready md ops listed,wpOp P ops Q i (fun a' w'=>(T w'∧(openB D (listed.setIfInBounds i true)=true→S w'))∧AnyK P md ops Q T S D fuel (listed.setIfInBounds i true) a' w') a w
theorem any_of_anyK:∀ (fuel:Nat) (listed:Array Bool) (a:Act) (w:World),AnyK P md ops Q T S D fuel listed a w→wpAny P md ops Q fuel listed a w
 | 0,_,_,_,h=>h
 | fuel+1,_,_,_,h=>⟨h.1,fun i hi=>wpOp_mono (fun a' w' h'=>any_of_anyK fuel _ a' w' h'.2) (h.2 i hi)⟩
def waitsB(md:Region.Mode)(ops:Array Oper)(D:List Nat)(i:Nat):Bool :=
 D.all fun d=>match ops[d]? with
  | none=>true
  | some o=>o.after.any fun e=>Region.binds md e && e.on == i
theorem waits_not{i j:Nat}{listed:Array Bool}(h:waitsB md ops D i=true)(hj:j∈Region.ready md ops listed)(hi:listed.getD i true=false):D.contains j=false:=by
 cases hc:D.contains j
 ·rfl
 ·exfalso
  have hm:j∈D:=by simpa using hc
  obtain⟨_,o,ho,hall⟩:=mem_ready.1 hj
  have h1:=List.all_eq_true.1 h j hm
  simp only [ho] at h1
  obtain⟨e,he,hb⟩:=Array.any_eq_true'.1 h1
  simp only [Bool.and_eq_true,beq_iff_eq] at hb
  have h2:=hall e he hb.1
  rw [hb.2] at h2
  rcases Nat.lt_or_ge i listed.size with h' | h'
  ·simp [h'] at hi h2;rw [hi] at h2;cases h2
  ·simp [Array.getElem?_eq_none h'] at hi
theorem anyK_first{i:Nat}{oi:Oper}{v:Value}(s:Bool)(hi:ops[i]? = some oi)(hsel:∀ (j:Nat) (o:Oper) cs b,ops[j]? = some o→o.op≠.select cs b)
  (hQ:∀ c a w,Q (.panic c) (a.put oi.dst v) w→Q (.panic c) a w) (hiD:D.contains i=false) (hW:s=true→waitsB md ops D i=true) :
  ∀ (fuel:Nat) (listed:Array Bool) (a:Act) (w:World),
   (∀ j oj,ops[j]? = some oj→j≠i→listed.getD j true=false→(∀ e∈oj.after,Region.binds md e=true→e.on≠i)→oi.apart ops oj=true) →
   i∈Region.ready md ops listed→YieldsIf P ops (fun w=>T w∧(s=true→S w)) oi v a→(T w∧(s=true→S w))→(T w∧(openB D listed=true→S w))→(s=true→openB D listed=true) →
   AnyK P md ops Q T S D fuel (listed.setIfInBounds i true) (a.put oi.dst v) w→AnyK P md ops Q T S D (fuel+1) listed a w:=by
 intro fuel
 induction fuel with
 | zero =>
  intro listed a w _ hr hy hU hTS hC H
  refine⟨fun h=>(by rw [h] at hr;cases hr),fun j hj=>?_⟩
  by_cases hji:j=i
  ·subst hji
   refine YieldsIf.wpOp (S:=fun w=>T w∧(s=true→S w)) hi hy hU ⟨⟨hTS.1,?_⟩,H⟩
   rw [openB_set hiD]
   exact hTS.2
  ·have:=ready_mono hj hji
   rw [H.1] at this
   cases this
 | succ fuel ih =>
  intro listed a w hfree hr hy hU hTS hC H
  refine⟨fun h=>(by rw [h] at hr;cases hr),fun j hj=>?_⟩
  by_cases hji:j=i
  ·subst hji
   refine YieldsIf.wpOp (S:=fun w=>T w∧(s=true→S w)) hi hy hU ⟨⟨hTS.1,?_⟩,H⟩
   rw [openB_set hiD]
   exact hTS.2
  ·have h1:=H.2 j (ready_mono hj hji)
   have hi0:=(mem_ready.1 hr).1
   have hjD:s=true→D.contains j=false:=fun h=>waits_not (hW h) hj hi0
   obtain⟨hjun,oj,hoj,hall⟩:=mem_ready.1 hj
   have hnot:∀ e∈oj.after,Region.binds md e=true→e.on≠i:=fun e he hb heq=>by
    have h1:=hall e he hb
    rw [heq] at h1
    rcases Nat.lt_or_ge i listed.size with h' | h'
    ·simp [h'] at hi0 h1;rw [hi0] at h1;cases h1
    ·simp [Array.getElem?_eq_none h'] at h1
   have h2:=wpOp_putIf hoj (hfree j oj hoj hji hjun hnot) (fun cs b=>hsel i oi cs b hi) (fun cs b=>hsel j oj cs b hoj) hQ hy h1
   have hfree':∀ k ok,ops[k]? = some ok→k≠i→(listed.setIfInBounds j true).getD k true=false →
     (∀ e∈ok.after,Region.binds md e=true→e.on≠i)→oi.apart ops ok=true:=fun k ok hk hki hun hno=>by
    refine hfree k ok hk hki ?_ hno
    by_cases hjk:j=k
    ·subst hjk;exact hjun
    ·rw [getD_set_ne true hjk] at hun;exact hun
   have hcm:(listed.setIfInBounds i true).setIfInBounds j true=(listed.setIfInBounds j true).setIfInBounds i true:=Array.setIfInBounds_comm _ _ (Ne.symm hji)
   refine wpOp_mono (fun a' w' h3=>?_) h2
   obtain⟨g1,⟨g2,g3⟩,g4⟩:=h3
   rw [hcm] at g3 g4
   rw [openB_set hiD] at g3
   have hC':s=true→openB D (listed.setIfInBounds j true)=true:=fun h=>by rw [openB_set (hjD h)];exact hC h
   exact⟨⟨g2,g3⟩,ih (listed.setIfInBounds j true) a' w' hfree' (ready_mono hr (Ne.symm hji)) g1 ⟨g2,fun h=>g3 (hC' h)⟩ ⟨g2,g3⟩ hC' g4⟩
theorem anyK_take(i:Nat){oi:Oper}{v:Value}{fuel:Nat}{listed:Array Bool}{a:Act}{w:World}(hi:ops[i]? = some oi)
  (hs:Region.noSelect ops=true) (hf:Region.free md ops listed i=true) (hr:(Region.ready md ops listed).contains i=true) (hiD:D.contains i=false)
  (hQ:∀ c a w,Q (.panic c) (a.put oi.dst v) w→Q (.panic c) a w) (hw:Region.wanted oi (yielded ops a.tmps)=true) (hT:T w) (hS:openB D listed=true→S w) (hy:∀ w,T w→(execOp a.eval oi).run P w=.ok (.value v) w)
  (h:AnyK P md ops Q T S D fuel (listed.setIfInBounds i true) (a.put oi.dst v) w):AnyK P md ops Q T S D (fuel+1) listed a w :=
 anyK_first false hi (Region.noSelect_spec hs) hQ hiD (fun h=>by cases h) fuel listed a w (Region.free_spec hi hf) (by simpa using hr) (.inl ⟨hw,fun w h=>hy w h.1⟩) ⟨hT,fun h=>by cases h⟩ ⟨hT,hS⟩ (fun h=>by cases h) h
theorem anyK_on{fuel:Nat}{listed:Array Bool}{a:Act}{w:World}(rs:List Nat)(hr:Region.ready md ops listed=rs)(hne:rs≠[])
  (h:∀ i∈rs,wpOp P ops Q i (fun a' w'=>(T w'∧(openB D (listed.setIfInBounds i true)=true→S w'))∧AnyK P md ops Q T S D fuel (listed.setIfInBounds i true) a' w') a w):AnyK P md ops Q T S D (fuel+1) listed a w :=
 ⟨fun h0=>absurd (hr ▸ h0) hne,hr ▸ h⟩
theorem anyK_on1{fuel:Nat}{listed:Array Bool}{a:Act}{w:World}(i:Nat)(hr:Region.ready md ops listed=[i])
  (h:wpOp P ops Q i (fun a' w'=>(T w'∧(openB D (listed.setIfInBounds i true)=true→S w'))∧AnyK P md ops Q T S D fuel (listed.setIfInBounds i true) a' w') a w):AnyK P md ops Q T S D (fuel+1) listed a w :=
 anyK_on [i] hr (by simp) (fun j hj=>by
  obtain rfl:j=i:=by simpa using hj
  exact h)
theorem anyK_on2{fuel:Nat}{listed:Array Bool}{a:Act}{w:World}(i j:Nat)(hr:Region.ready md ops listed=[i,j])
  (h:wpOp P ops Q i (fun a' w'=>(T w'∧(openB D (listed.setIfInBounds i true)=true→S w'))∧AnyK P md ops Q T S D fuel (listed.setIfInBounds i true) a' w') a w)
  (h2:wpOp P ops Q j (fun a' w'=>(T w'∧(openB D (listed.setIfInBounds j true)=true→S w'))∧AnyK P md ops Q T S D fuel (listed.setIfInBounds j true) a' w') a w):AnyK P md ops Q T S D (fuel+1) listed a w :=
 anyK_on [i,j] hr (by simp) (fun k hk=>by
  rcases List.mem_cons.1 hk with rfl | hk
  ·exact h
  ·obtain rfl:k=j:=by simpa using hk
   exact h2)
theorem anyK_one{fuel:Nat}{listed:Array Bool}{a:Act}{w:World}(i:Nat){o:Oper}(ho:ops[i]? = some o)
  (h:∀ K':Act→World→Prop,Shut (∀ a w,T w→(openB D (listed.setIfInBounds i true)=true→S w)→AnyK P md ops Q T S D fuel (listed.setIfInBounds i true) a w→K' a w)→if Region.wanted o (yielded ops a.tmps)=true then Oper.wp P o a w K' Q else K' (a.put o.dst undef) w) :
  wpOp P ops Q i (fun a' w'=>(T w'∧(openB D (listed.setIfInBounds i true)=true→S w'))∧AnyK P md ops Q T S D fuel (listed.setIfInBounds i true) a' w') a w :=
 wpOp_step ho (fun K' hK=>h K' (fun a w hT hS hW=>hK a w ⟨⟨hT,hS⟩,hW⟩))
theorem anyK_done{listed:Array Bool}{a:Act}{w:World}(hr:Region.ready md ops listed=[])(h:Q .normal a w):∀ fuel,AnyK P md ops Q T S D fuel listed a w
 | 0=>⟨hr,h⟩
 | _+1=>⟨fun _=>h,by rw [hr];simp⟩
theorem region_K{id:Nat}{a:Act}{w:World}(T S:World→Prop)(D:List Nat)(hm:P.follows .mixedOrders=true)
  (h:AnyK P .any ops Q T S D ops.size (Array.replicate ops.size false) a w.drew):(Code.region id ops true).wp P Q a w :=
 wp_region_any hm (any_of_anyK _ _ _ _ h)
end
end Go.Proofs.YtdoibgmmijhlfaaGreat
namespace Go.Proofs.YtdoibgmmijhlfaaGreat
open Go
section
variable {P:Program}{Q:Exit→Act→World→Prop}{md:Region.Mode}{T S:World→Prop}{D:List Nat}
theorem tk(i:Nat){l:List Oper}{oi:Oper}{v:Value}{fuel:Nat}{listed:Array Bool}{a a':Act}{w:World}(hT:T w)(hS:openB D listed=true→S w)
  (h:AnyK P md l.toArray Q T S D fuel (listed.setIfInBounds i true) a' w) (hi:l[i]? = some oi:=by rfl)
  (hy:∀ w,T w→(execOp a.eval oi).run P w=.ok (.value v) w:=by intro W hW;go_simp;first | done | with_reducible rfl)
  (hp:a.put oi.dst v=a':=by first | (simp only [Act.put,List.setIfInBounds_toArray,List.set_cons_zero,List.set_cons_succ];done) | (simp only [Act.put,List.setIfInBounds_toArray,List.set_cons_zero,List.set_cons_succ];rfl) | rfl)
  (hs:Region.noSelect l.toArray=true:=by kernel_rfl) (hf:Region.free md l.toArray listed i=true:=by kernel_rfl) (hr:(Region.ready md l.toArray listed).contains i=true:=by kernel_rfl) (hiD:D.contains i=false:=by kernel_rfl)
  (hQ:∀ c a w,Q (.panic c) (a.put oi.dst v) w→Q (.panic c) a w:=by exact fun _ _ _ h=>h) (hw:Region.wanted oi (yielded l.toArray a.tmps)=true:=by rfl):AnyK P md l.toArray Q T S D (fuel+1) listed a w :=
 anyK_take i (by simpa using hi) hs hf hr hiD hQ hw hT hS hy (hp ▸ h)
theorem tl(i:Nat){l:List Oper}{oi:Oper}{v:Value}{fuel:Nat}{listed:Array Bool}{a a':Act}{w:World}(hT:T w)(hS:openB D listed=true→S w)
  (hy:∀ w,T w→(execOp a.eval oi).run P w=.ok (.value v) w) (h:AnyK P md l.toArray Q T S D fuel (listed.setIfInBounds i true) a' w) (hi:l[i]? = some oi:=by rfl)
  (hp:a.put oi.dst v=a':=by first | (simp only [Act.put,List.setIfInBounds_toArray,List.set_cons_zero,List.set_cons_succ];done) | (simp only [Act.put,List.setIfInBounds_toArray,List.set_cons_zero,List.set_cons_succ];rfl) | rfl)
  (hs:Region.noSelect l.toArray=true:=by kernel_rfl) (hf:Region.free md l.toArray listed i=true:=by kernel_rfl) (hr:(Region.ready md l.toArray listed).contains i=true:=by kernel_rfl) (hiD:D.contains i=false:=by kernel_rfl)
  (hQ:∀ c a w,Q (.panic c) (a.put oi.dst v) w→Q (.panic c) a w:=by exact fun _ _ _ h=>h) (hw:Region.wanted oi (yielded l.toArray a.tmps)=true:=by rfl):AnyK P md l.toArray Q T S D (fuel+1) listed a w :=
 anyK_take i (by simpa using hi) hs hf hr hiD hQ hw hT hS hy (hp ▸ h)
theorem tw{l:List Oper}{fuel:Nat}{listed:Array Bool}{a:Act}{w:World}(i:Nat){o:Oper}
  (h:∀ K':Act→World→Prop,Shut (∀ a w,T w→(openB D (listed.setIfInBounds i true)=true→S w)→AnyK P md l.toArray Q T S D fuel (listed.setIfInBounds i true) a w→K' a w)→if Region.wanted o (yielded l.toArray a.tmps)=true then Oper.wp P o a w K' Q else K' (a.put o.dst undef) w) (ho:l[i]? = some o:=by rfl) :
  wpOp P l.toArray Q i (fun a' w'=>(T w'∧(openB D (listed.setIfInBounds i true)=true→S w'))∧AnyK P md l.toArray Q T S D fuel (listed.setIfInBounds i true) a' w') a w :=
 anyK_one i (by simpa using ho) h
end
end Go.Proofs.YtdoibgmmijhlfaaGreat
namespace Go.Proofs.YtdoibgmmijhlfaaGreat
open Go.ChangeShapes Go.WideShapes Go.ChangeAt Go.RowKit
set_option linter.unusedVariables false
def mixA(n:Int):Int:=IntKind.u64.wrap ((n+1) * 11400714819323198485)
def mixB(z:Int):Int:=IntKind.u64.wrap (bits .xor .u64 z (z / 1073741824) * 13787848793156543929)
def mixC(z:Int):Int:=IntKind.u64.wrap (bits .xor .u64 z (z / 134217728) * 10723151780598845931)
def mixM(n:Int):Int:=bits .xor .u64 (mixC (mixB (mixA n))) (mixC (mixB (mixA n)) / 2147483648)
theorem Mix_any(n:Int)(w:World)(h0:0≤n)(h1:n≤1000000000000000):Calls Crz.prog 148 #[.int .i64 n] w fun e w'=>e=.returned (.int .u64 (mixM n))∧w=w':=by
 go_enter Crz.func148,Tryz.ntmps148
 go_wp2
 go_ret
 exact⟨rfl,rfl⟩
def threeR:RM:={ name:=⟨#[84,73,67]⟩,width:=3,height:=3,pieces:=[⟨65,5,0,[]⟩],start:=[0,0,0,0,0,0,0,0,0],falls:=false,keeps:=false,ends:=[⟨0,0,3,false⟩],blocked:=2,quiet:=0,rept:=0 }
theorem make9(W:World):(Instr.makeSlice 23 (.int .i64 9) (.int .i64 9)).run Crz.prog W=.ok (.slice (some ⟨W.heap.size,0,none⟩) 9 9) (W.alloc (.cells #[.int .i64 0,.int .i64 0,.int .i64 0,.int .i64 0,.int .i64 0,.int .i64 0,.int .i64 0,.int .i64 0,.int .i64 0] 3)):=by kernel_rfl
end Go.Proofs.YtdoibgmmijhlfaaGreat
namespace Go.Proofs.YtdoibgmmijhlfaaGreat
open Go.ChangeShapes Go.WideShapes Go.ChangeAt Go.RowKit
def allZero(zs:List Int):Bool:=zs.all (· == 0)
end Go.Proofs.YtdoibgmmijhlfaaGreat
