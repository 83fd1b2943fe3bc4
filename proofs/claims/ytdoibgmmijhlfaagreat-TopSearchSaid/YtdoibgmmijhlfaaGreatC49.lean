/- SimB -/
import Derived.Orders
namespace Go.Proofs.YtdoibgmmijhlfaaGreat.Sm
open Go
set_option linter.unusedVariables false
def waitsAll(md:Region.Mode)(ops:Array Oper)(n:Nat):Bool:=(List.range ops.size).all fun j=>j == n || (match ops[n]? with | some o=>o.after.any fun e=>e.on == j && Region.binds md e | none=>false)
theorem go_last{md:Region.Mode}{ops:Array Oper}{n:Nat}(h:waitsAll md ops n=true):∀ (fuel t:Nat) (listed:Array Bool) (pre r:List Nat),listed.size=ops.size→(listed.getD n true=false) →
  Region.linearise.go md ops fuel t listed []=pre++n :: r→r=[]
 | 0,t,listed,pre,r,hs,hn,e=>by simp [Region.linearise.go] at e
 | fuel+1,t,listed,pre,r,hs,hn,e=>by
  simp only [Region.linearise.go] at e
  split at e
  ·rename_i i hi
   rw [linearise_go_acc,List.reverse_singleton,List.singleton_append] at e
   have hmem:=List.mem_of_getElem? hi
   rw [List.mem_filter] at hmem
   obtain⟨hr,hc⟩:=hmem
   rw [Bool.and_eq_true] at hc
   by_cases hin:i=n
   ·subst hin
    have hall:∀ j,j<ops.size→j≠i→listed.getD j true=true:=by
     intro j hj hne
     have h1:=List.all_eq_true.1 h j (List.mem_range.2 hj)
     cases ho:ops[i]? with
     | none=>rw [ho] at hc;simp at hc
     | some o =>
      rw [ho] at h1 hc
      simp only [Bool.or_eq_true,beq_iff_eq] at h1
      have h2:=h1.resolve_left hne
      rw [Array.any_eq_true] at h2
      obtain⟨i',hi',hb⟩:=h2
      obtain⟨e',he'0⟩:∃ e',e'=o.after[i']:=⟨_,rfl⟩
      have he':e'∈o.after:=he'0 ▸ Array.getElem_mem _
      rw [← he'0] at hb
      simp only [Bool.and_eq_true,beq_iff_eq] at hb
      have h3:=hc.2
      simp only [Option.map_some,Option.getD_some] at h3
      have h4:=Array.all_eq_true_iff_forall_mem.1 h3 e' he'
      rw [hb.2] at h4
      simp only [Bool.not_true,Bool.false_or] at h4
      rw [hb.1] at h4
      have hjl:j<listed.size:=by omega
      rw [Array.getD_eq_getD_getElem?,Array.getElem?_eq_getElem hjl] at h4 ⊢
      exact h4
    have hnone:∀ (fuel t:Nat),Region.linearise.go md ops fuel t (listed.setIfInBounds i true) []=[]:=by
     intro fuel t
     cases fuel with
     | zero=>simp [Region.linearise.go]
     | succ fuel =>
      simp only [Region.linearise.go]
      have hf:((List.range ops.size).filter fun j=>!(listed.setIfInBounds i true).getD j true && ((ops[j]?).map (·.after.all fun e=>!Region.binds md e || (listed.setIfInBounds i true).getD e.on false)).getD false)=[]:=by
       rw [List.filter_eq_nil_iff]
       intro j hj
       have hj':=List.mem_range.1 hj
       have:(listed.setIfInBounds i true).getD j true=true:=by
        rw [Array.getD_eq_getD_getElem?]
        by_cases hji:i=j
        ·subst hji
         rw [Array.getElem?_setIfInBounds_self]
         split <;> rfl
        ·rw [Array.getElem?_setIfInBounds_ne hji,← Array.getD_eq_getD_getElem?]
         exact hall j hj' (Ne.symm hji)
       rw [this]
       simp
      rw [hf]
      simp
    rw [hnone] at e
    cases pre with
    | nil=>simp at e;exact e.symm ▸ rfl
    | cons a pre=>simp at e
   ·cases pre with
    | nil=>simp at e;exact absurd e.1 hin
    | cons a pre =>
     simp only [List.cons_append,List.cons.injEq] at e
     refine go_last h fuel _ _ pre r (by simpa using hs) ?_ e.2
     rw [Array.getD_eq_getD_getElem?,Array.getElem?_setIfInBounds_ne hin,← Array.getD_eq_getD_getElem?]
     exact hn
  ·simp at e
theorem last_only{b:Bool}{ops:Array Oper}{n a:Nat}{pre r:List Nat}(h1:waitsAll .any ops n=true)(h2:waitsAll .text ops n=true)(h3:waitsAll .gc ops n=true)(hn:n<ops.size)(e:Region.schedule b ops a=pre++n :: r):r=[]:=by
 have h0:(Array.replicate ops.size false).getD n true=false:=by
  rw [Array.getD_eq_getD_getElem?]
  simp [hn]
 unfold Region.schedule at e
 split at e
 ·exact go_last h1 _ _ _ _ _ (by simp) h0 e
 ·split at e
  ·exact go_last h2 _ _ _ _ _ (by simp) h0 e
  ·exact go_last h3 _ _ _ _ _ (by simp) h0 e
def waitsBelow(ops:Array Oper):Bool:=(List.range ops.size).all fun i=>match ops[i]? with | some o=>o.after.all fun e=>decide (e.on<i) | none=>true
theorem first_open{listed:Array Bool}:∀ j:Nat,listed.getD j true=false→∃ m,m≤j∧listed.getD m true=false∧∀ i,i<m→listed.getD i true=true:=by
 intro j
 induction j using Nat.strongRecOn with
 | _ j ih =>
  intro hj
  by_cases h:∀ i,i<j→listed.getD i true=true
  ·exact⟨j,Nat.le_refl _,hj,h⟩
  ·have:∃ i,i<j∧listed.getD i true=false:=Classical.byContradiction fun hn=>h fun i hi=>by
    cases hc:listed.getD i true with
    | true=>rfl
    | false=>exact absurd ⟨i,hi,hc⟩ hn
   obtain⟨i,hi,hc⟩:=this
   obtain⟨m,h1,h2,h3⟩:=ih i hi hc
   exact⟨m,by omega,h2,h3⟩
def openL(ops:Array Oper)(listed:Array Bool):List Nat:=(List.range ops.size).filter fun j=>!listed.getD j true
theorem openL_set{ops:Array Oper}{listed:Array Bool}{i:Nat}(hi:i∈openL ops listed):(openL ops (listed.setIfInBounds i true)).length<(openL ops listed).length:=by
 have e:openL ops (listed.setIfInBounds i true)=(openL ops listed).filter fun j=>j != i:=by
  unfold openL
  rw [List.filter_filter]
  apply List.filter_congr
  intro j hj
  by_cases hji:i=j
  ·subst hji
   have:(listed.setIfInBounds i true).getD i true=true:=by
    rw [Array.getD_eq_getD_getElem?,Array.getElem?_setIfInBounds_self]
    split <;> rfl
   simp [this]
  ·have:(listed.setIfInBounds i true).getD j true=listed.getD j true:=by
    rw [Array.getD_eq_getD_getElem?,Array.getElem?_setIfInBounds_ne hji,← Array.getD_eq_getD_getElem?]
   rw [this]
   have h2:(j != i)=true:=by simpa using fun h=>hji h.symm
   simp [h2]
 rw [e,List.length_filter_lt_length_iff_exists]
 exact⟨i,hi,by simp⟩
theorem go_mem{md:Region.Mode}{ops:Array Oper}{n:Nat}(h:waitsBelow ops=true)(hn:n<ops.size):∀ (fuel t:Nat) (listed:Array Bool),listed.size=ops.size→(openL ops listed).length≤fuel→listed.getD n true=false→n∈Region.linearise.go md ops fuel t listed []
 | 0,t,listed,hs,hc,hl=>by
  have:n∈openL ops listed:=List.mem_filter.2 ⟨List.mem_range.2 hn,by rw [hl];rfl⟩
  have:=List.length_pos_of_mem this
  omega
 | fuel+1,t,listed,hs,hc,hl=>by
  simp only [Region.linearise.go]
  obtain⟨m,h1,h2,h3⟩:=first_open n hl
  have hm:m<ops.size:=by omega
  have hmem:m∈(List.range ops.size).filter fun i=>!listed.getD i true && ((ops[i]?).map (·.after.all fun e=>!Region.binds md e || listed.getD e.on false)).getD false:=by
   refine List.mem_filter.2 ⟨List.mem_range.2 hm,?_⟩
   rw [h2,Array.getElem?_eq_getElem hm]
   simp only [Bool.not_false,Bool.true_and,Option.map_some,Option.getD_some]
   rw [Array.all_eq_true_iff_forall_mem]
   intro e he
   have hb:=List.all_eq_true.1 h m (List.mem_range.2 hm)
   rw [Array.getElem?_eq_getElem hm] at hb
   have:=Array.all_eq_true_iff_forall_mem.1 hb e he
   have hlt:e.on<m:=by simpa using this
   have h4:=h3 e.on hlt
   have hel:e.on<listed.size:=by omega
   have:listed.getD e.on false=true:=by
    rw [Array.getD_eq_getD_getElem?,Array.getElem?_eq_getElem hel] at h4 ⊢
    exact h4
   rw [this]
   simp
  generalize hrs:((List.range ops.size).filter fun i=>!listed.getD i true && ((ops[i]?).map (·.after.all fun e=>!Region.binds md e || listed.getD e.on false)).getD false)=rs at hmem
  have hpos:=List.length_pos_of_mem hmem
  have hlt:t % rs.length<rs.length:=Nat.mod_lt _ hpos
  rw [List.getElem?_eq_getElem hlt]
  simp only
  rw [linearise_go_acc,List.reverse_singleton,List.singleton_append]
  generalize hi:rs[t % rs.length]=i
  have him:i∈rs:=hi ▸ List.getElem_mem hlt
  rw [← hrs,List.mem_filter,Bool.and_eq_true] at him
  by_cases hin:i=n
  ·subst hin;exact List.mem_cons_self
  ·refine List.mem_cons_of_mem _ (go_mem h hn fuel _ _ (by simpa using hs) ?_ ?_)
   ·have:=openL_set (ops:=ops) (listed:=listed) (i:=i) (List.mem_filter.2 ⟨him.1,him.2.1⟩)
    omega
   ·rw [Array.getD_eq_getD_getElem?,Array.getElem?_setIfInBounds_ne hin,← Array.getD_eq_getD_getElem?]
    exact hl
theorem mem_schedule{b:Bool}{ops:Array Oper}{n:Nat}(a:Nat)(h:waitsBelow ops=true)(hn:n<ops.size):n∈Region.schedule b ops a:=by
 have h0:(Array.replicate ops.size false).getD n true=false:=by
  rw [Array.getD_eq_getD_getElem?]
  simp [hn]
 have hc:(openL ops (Array.replicate ops.size false)).length≤ops.size:=by
  have:=List.length_filter_le (fun j=>!(Array.replicate ops.size false).getD j true) (List.range ops.size)
  simpa [openL] using this
 unfold Region.schedule
 split
 ·exact go_mem h hn _ _ _ (by simp) hc h0
 ·split
  ·exact go_mem h hn _ _ _ (by simp) hc h0
  ·exact go_mem h hn _ _ _ (by simp) hc h0
end Go.Proofs.YtdoibgmmijhlfaaGreat.Sm
