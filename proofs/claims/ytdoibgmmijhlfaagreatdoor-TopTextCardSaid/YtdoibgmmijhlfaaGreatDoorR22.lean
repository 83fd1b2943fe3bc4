/- SortLay MovesW3p MovesSort -/
import Derived.Shelf.SlSortCmp.NoneTotal
import Derived.Ground.SlsfProg
import Derived.Test.YtdoibgmmijhlfaaGreatDoorProg
import Derived.Test.YtdoibgmmijhlfaaGreatDoorR21
import Derived.Test.YtdoibgmmijhlfaaGreatDoorR11
import Derived.Test.YtdoibgmmijhlfaaGreatDoorR09
namespace Go.Proofs
open Go.Shelf
def Tryz.sortM_ren : Go.Shelf.Ren:=⟨fun | 6 => 76 | 15 => 106 | 14 => 105 | 28 => 133 | 29 => 134 | 20 => 125 | 21 => 126 | 22 => 127 | 23 => 128 | 24 => 129 | 25 => 130 | 26 => 131 | 27 => 132 | 46 => 147 | 47 => 148 | 48 => 149 | 49 => 150 | 50 => 151 | 57 => 158 | n => n,fun | 22 => 38 | 24 => 47 | 25 => 125 | 3 => 3 | 39 => 145 | 0 => 0 | 53 => 176 | 55 => 148 | 4 => 4 | 46 => 169 | 45 => 168 | 50 => 173 | 5 => 5 | 9 => 9 | 66 => 188 | 70 => 192 | 76 => 204 | 77 => 205 | n => n,fun | n => n⟩
theorem Tryz.sortM : Go.Proofs.SlLaysF0.n6 Tryz.prog Tryz.sortM_ren:={
 mixed:=by kernel_rfl
 f6:=⟨Tryz.f76.name,by decide,Tryz.func76.trans (congrArg some (by kernel_rfl))⟩
 f14:=⟨Tryz.f105.name,by decide,Tryz.func105.trans (congrArg some (by kernel_rfl))⟩
 f15:=Tryz.func106.trans (congrArg some (by kernel_rfl))
 f20:=⟨Tryz.f125.name,by decide,Tryz.func125.trans (congrArg some (by kernel_rfl))⟩
 f21:=⟨Tryz.f126.name,by decide,Tryz.func126.trans (congrArg some (by kernel_rfl))⟩
 f22:=⟨Tryz.f127.name,by decide,Tryz.func127.trans (congrArg some (by kernel_rfl))⟩
 f23:=⟨Tryz.f128.name,by decide,Tryz.func128.trans (congrArg some (by kernel_rfl))⟩
 f24:=⟨Tryz.f129.name,by decide,Tryz.func129.trans (congrArg some (by kernel_rfl))⟩
 f25:=⟨Tryz.f130.name,by decide,Tryz.func130.trans (congrArg some (by kernel_rfl))⟩
 f26:=⟨Tryz.f131.name,by decide,Tryz.func131.trans (congrArg some (by kernel_rfl))⟩
 f27:=⟨Tryz.f132.name,by decide,Tryz.func132.trans (congrArg some (by kernel_rfl))⟩
 f28:=Tryz.func133.trans (congrArg some (by kernel_rfl))
 f29:=Tryz.func134.trans (congrArg some (by kernel_rfl))
 f46:=⟨Tryz.f147.name,by decide,Tryz.func147.trans (congrArg some (by kernel_rfl))⟩
 f47:=Tryz.func148.trans (congrArg some (by kernel_rfl))
 f48:=Tryz.func149.trans (congrArg some (by kernel_rfl))
 f49:=⟨Tryz.f150.name,by decide,Tryz.func150.trans (congrArg some (by kernel_rfl))⟩
 f50:=⟨Tryz.f151.name,by decide,Tryz.func151.trans (congrArg some (by kernel_rfl))⟩
 f57:=⟨Tryz.f158.name,by decide,Tryz.func158.trans (congrArg some (by kernel_rfl))⟩
 t0:=Tryz.underlying0
 a0:=Tryz.isAgg0
 z0:=Tryz.sizeOf0
 v0:=Tryz.zeroValue0
 t3:=Tryz.underlying3
 a3:=Tryz.isAgg3
 z3:=Tryz.sizeOf3
 v3:=Tryz.zeroValue3
 t4:=Tryz.underlying4
 a4:=Tryz.isAgg4
 z4:=Tryz.sizeOf4
 v4:=Tryz.zeroValue4
 t5:=Tryz.underlying5
 a5:=Tryz.isAgg5
 z5:=Tryz.sizeOf5
 v5:=Tryz.zeroValue5
 t9:=Tryz.underlying9
 a9:=Tryz.isAgg9
 z9:=Tryz.sizeOf9
 v9:=Tryz.zeroValue9
 t22:=Tryz.underlying38
 a22:=Tryz.isAgg38
 z22:=Tryz.sizeOf38
 v22:=Tryz.zeroValue38
 t25:=Tryz.underlying125
 a25:=Tryz.isAgg125
 z25:=Tryz.sizeOf125
 v25:=Tryz.zeroValue125
 t39:=Tryz.underlying145
 a39:=Tryz.isAgg145
 z39:=Tryz.sizeOf145
 v39:=Tryz.zeroValue145
 t45:=Tryz.underlying168
 a45:=Tryz.isAgg168
 z45:=Tryz.sizeOf168
 v45:=Tryz.zeroValue168
 t46:=Tryz.underlying169
 a46:=Tryz.isAgg169
 z46:=Tryz.sizeOf169
 v46:=Tryz.zeroValue169
 t50:=Tryz.underlying173
 a50:=Tryz.isAgg173
 z50:=Tryz.sizeOf173
 v50:=Tryz.zeroValue173
 t53:=Tryz.underlying176
 a53:=Tryz.isAgg176
 z53:=Tryz.sizeOf176
 v53:=Tryz.zeroValue176
 t55:=Tryz.underlying148
 a55:=Tryz.isAgg148
 z55:=Tryz.sizeOf148
 v55:=Tryz.zeroValue148
 t66:=Tryz.underlying188
 a66:=Tryz.isAgg188
 z66:=Tryz.sizeOf188
 v66:=Tryz.zeroValue188
 t70:=Tryz.underlying192
 a70:=Tryz.isAgg192
 z70:=Tryz.sizeOf192
 v70:=Tryz.zeroValue192
 t76:=Tryz.underlying204
 a76:=Tryz.isAgg204
 z76:=Tryz.sizeOf204
 v76:=Tryz.zeroValue204
 t77:=Tryz.underlying205
 a77:=Tryz.isAgg205
 z77:=Tryz.sizeOf205
 v77:=Tryz.zeroValue205 }
end Go.Proofs
namespace Go.Proofs.YtdoibgmmijhlfaaGreatDoor
open Go.ChangeShapes Go.WideShapes Go.ChangeAt Go.RowKit Go.Shelf
set_option linter.unusedVariables false
theorem putsAt_succ (hd : List Int) (s m : Nat) : putsAt hd s (m + 1)=putsAt hd s m ++ (if 0 < hd.getD m 0 then [⟨-1,s,m⟩] else []):=by
 unfold putsAt
 rw [List.range_succ,List.flatMap_append]
 simp
theorem putsTo_succ (R : RulesM) (P : PosM) (k : Nat) : putsTo R P (k + 1)=putsTo R P k ++ (if putB R P k then putsAt P.hand k P.hand.length else []):=by
 unfold putsTo
 rw [List.range_succ,List.flatMap_append]
 simp
theorem putsAt_len (hd : List Int) (s : Nat) : ∀ m,(putsAt hd s m).length≤m
 | 0 => by simp [putsAt]
 | m + 1 => by
  have:=putsAt_len hd s m
  rw [putsAt_succ,List.length_append]
  split <;> simp <;> omega
theorem putsTo_len (R : RulesM) (P : PosM) (h : P.hand.length≤6) : ∀ k,(putsTo R P k).length≤6 * k
 | 0 => by simp [putsTo]
 | k + 1 => by
  have:=putsTo_len R P h k
  have h2:=putsAt_len P.hand k P.hand.length
  rw [putsTo_succ,List.length_append]
  split
  ·omega
  ·simp; omega
theorem putB_cell {R : RulesM} {P : PosM} {k : Nat} (h : P.cells.getD k 0 ≠ 0) : putB R P k=false:=by
 unfold putB; rw [decide_eq_false h]; rfl
theorem putB_free {R : RulesM} {P : PosM} {k : Nat} (h : P.cells.getD k 0=0) (hf : R.falls=false) : putB R P k=true:=by
 unfold putB; rw [decide_eq_true h,hf]; rfl
theorem putB_low {R : RulesM} {P : PosM} {k W : Nat} (h : P.cells.getD k 0=0) (hW : R.width=W) (hk : k < W) : putB R P k=true:=by
 unfold putB
 rw [decide_eq_true h,hW,Int.toNat_natCast,decide_eq_true hk]
 simp
theorem putB_fill {R : RulesM} {P : PosM} {k W : Nat} (h : P.cells.getD k 0=0) (hf : R.falls=true) (hW : R.width=W) (hk : W≤k) : putB R P k=fillA P.cells W k:=by
 unfold putB fillA
 rw [decide_eq_true h,hf,hW,Int.toNat_natCast,decide_eq_false (by omega)]
 simp
def MovesPost (w : World) (T : List MoveM) (e : Ending) (w' : World) : Prop:=∃ v',e=.returned v'∧OwnM w w' v' T∧Ext w w'
end Go.Proofs.YtdoibgmmijhlfaaGreatDoor
namespace Go.Proofs.YtdoibgmmijhlfaaGreatDoor
open Go.ChangeShapes Go.WideShapes Go.ChangeAt Go.RowKit Go.Shelf
set_option linter.unusedVariables false
open Go.Sort
instance : Inhabited MoveM:=⟨⟨0,0,0⟩⟩
theorem flat_vals (L : List MoveM) : flatK MoveM.vals 3 L.toArray=(L.flatMap MoveM.vals).toArray:=by
 refine ext_get! (by rw [size_flatK,List.size_toArray,List.size_toArray,len_vals]) fun t ht => ?_
 have ht' : t < L.length * 3:=by rw [size_flatK,List.size_toArray] at ht; exact ht
 have hk : t / 3 < L.length:=by omega
 have hv : (L.flatMap MoveM.vals)[t]? = (L[t / 3].vals)[t % 3]?:=by
  have:=flat_get MoveM.vals 3 (fun _ => rfl) L (t / 3) (t % 3) L[t / 3] (List.getElem?_eq_getElem hk) (by omega)
  rwa [show t / 3 * 3 + t % 3=t from by omega] at this
 rw [get_flatK _ _ _ _ (by simpa using ht')]
 have hl : t < (L.flatMap MoveM.vals).length:=by rw [len_vals]; exact ht'
 have h3 : t % 3 < (L[t / 3].vals).length:=by show t % 3 < 3; omega
 have e1 : ((L.flatMap MoveM.vals).toArray)[t]! = (L.flatMap MoveM.vals)[t]:=getElem!_pos _ t (by rw [List.size_toArray]; exact hl)
 have e2 : (L.toArray)[t / 3]! = L[t / 3]:=getElem!_pos _ _ (by rw [List.size_toArray]; exact hk)
 rw [e1,e2]
 rw [List.getElem?_eq_getElem hl,List.getElem?_eq_getElem h3] at hv
 injection hv with hv
 rw [hv]
 exact getElem!_pos (L[t / 3]).vals (t % 3) h3
theorem ltOf_iff {x y : MoveM} : ltOf cmpM x y=true ↔ ltM x y:=by unfold ltOf ltM; simp
theorem swo_cmp : SWO (ltOf cmpM) where
 irrefl x:=by
  have:=ltM_irrefl x
  unfold ltOf ltM at *
  simpa using this
 trans x y z h1 h2:=by
  rw [ltOf_iff] at *
  exact ltM_trans h1 h2
 ntrans x y z h1 h2:=by
  have a : ¬ ltM x y:=fun h => by rw [ltOf_iff.2 h] at h1; cases h1
  have b : ¬ ltM y z:=fun h => by rw [ltOf_iff.2 h] at h2; cases h2
  have : ¬ ltM x z:=by rw [ltM_iff] at *; omega
  cases h : ltOf cmpM x z
  ·rfl
  ·exact absurd (ltOf_iff.1 h) this
theorem total_cmp (x y : MoveM) (h1 : ltOf cmpM x y=false) (h2 : ltOf cmpM y x=false) : x=y:=by
 rcases ltM_total x y with h | h | h
 ·rw [ltOf_iff.2 h] at h1; cases h1
 ·exact h
 ·rw [ltOf_iff.2 h] at h2; cases h2
def sortM (L : List MoveM) : List MoveM:=L.mergeSort fun x y => !(ltOf cmpM) y x
theorem sortM_mem {L : List MoveM} {x : MoveM} : x ∈ sortM L ↔ x ∈ L:=(List.mergeSort_perm L _).mem_iff
theorem sortM_length (L : List MoveM) : (sortM L).length=L.length:=(List.mergeSort_perm L _).length_eq
theorem sortM_sorted (L : List MoveM) : (sortM L).Pairwise fun a b => ¬ ltM b a:=by
 have h:=List.pairwise_mergeSort (le:=fun x y => !(ltOf cmpM) y x) (fun a b c h1 h2 => by
  simp only [Bool.not_eq_true'] at *
  exact swo_cmp.ntrans c b a h2 h1) (fun a b => by
  rcases ltM_total a b with h | h | h
  ·have:=swo_cmp.trans a b a (ltOf_iff.2 h)
   cases h2 : ltOf cmpM b a
   ·simp
   ·exact absurd (ltOf_iff.1 (this h2)) (ltM_irrefl a)
  ·subst h; rw [swo_cmp.irrefl]; rfl
  ·cases h2 : ltOf cmpM a b
   ·simp
   ·exact absurd (ltM_trans h (ltOf_iff.1 h2)) (ltM_irrefl b)) L
 refine h.imp ?_
 intro a b hab hlt
 rw [ltOf_iff.2 hlt] at hab
 cases hab
theorem isAgg_move (w : World) : (isAgg 47).run Tryz.prog w=.ok true w:=Tryz.isAgg47 w
theorem sizeOf_move (w : World) : (Go.sizeOf 47).run Tryz.prog w=.ok 3 w:=Tryz.sizeOf47 w
def SortPost (w0 : World) (v : Value) (L : List MoveM) (e : Ending) (w' : World) : Prop:=e=.returned (.tuple #[])∧OwnM w0 w' v (sortM L)∧Ext w0 w'
theorem SortFunc_any (w0 w : World) (v : Value) (L : List MoveM) (h : OwnM w0 w v L) (hext : Ext w0 w) (hlen : L.length≤1000000) :
  Calls Tryz.prog 76 #[v,.func (.func 77) #[] #[]] w (SortPost w0 v L):=by
 obtain ⟨A,c,rfl,hown⟩:=h
 by_cases h0 : L=[]
 ·subst h0
  have hc:=AnyF.slices_SortFunc_none Tryz.sortM A c (.func (.func 77) #[] #[]) w
  refine hc.mono ?_
  rintro e w' ⟨rfl,rfl⟩
  exact ⟨rfl,by rw [show sortM []=[] from by simp [sortM]]; exact ⟨A,c,rfl,hown⟩,hext⟩
 ·rcases hown.2 with ⟨e1,e2⟩ | ⟨g,cap,cur,e1,hb,hg,hnc,hcm,hcs,ht⟩
  ·exact absurd (List.eq_nil_of_length_eq_zero e2) h0
  ·injection e1 with a b d
   subst a; subst d
   have ht' : cur.toList.take (L.length * 3)=L.flatMap MoveM.vals:=ht
   have hcs' : cur.size=c * 3:=hcs
   have hnc' : L.length≤c:=hnc
   have hH : HoldsK MoveM.vals 3 w g 0 L.toArray:=by
    unfold HoldsK
    rw [flat_vals]
    intro j hj
    have hj' : j < (L.flatMap MoveM.vals).length:=by rw [List.size_toArray] at hj; exact hj
    have hj3 : j < L.length * 3:=by rw [← len_vals]; exact hj'
    refine ⟨?_,by simp [World.frozen?,hg]⟩
    rw [Nat.zero_add,cell_of_row _ _ _ cur _ (0,0) hg]
    have e : (cur.toList.take (L.length * 3))[j]? = (L.flatMap MoveM.vals)[j]?:=by rw [ht']
    rw [List.getElem?_take,if_pos hj3,List.getElem?_eq_getElem hj'] at e
    rw [← Array.getElem?_toList,e]
    exact congrArg some (getElem!_pos ((L.flatMap MoveM.vals).toArray) j (by rw [List.size_toArray]; exact hj')).symm
   have eg : ∀ args w,(callFunc 77 args).run Tryz.prog w=.ok (.enter 77 args) w:=enters_of Tryz.func77 (by kernel_rfl) rfl
   have hcmp : CmpLays Tryz.prog 77 #[] MoveM.vals 3 cmpM g 0 L.toArray.size w:=fun m os dk hs x y => cmpMoves_any x y _
   have hglt : g < w.heap.size:=(Array.getElem?_eq_some_iff.1 hg).1
   have hc:=AnyQ.slices_SortFunc_total Tryz.sortM 3 isAgg_move sizeOf_move MoveM.vals (fun _ => rfl) (fun x u hu => by simp [MoveM.vals] at hu; rcases hu with rfl | rfl | rfl <;> rfl) cmpM swo_cmp 77 #[] g 0 c L.toArray w eg hcmp hH hglt (by simp; omega) total_cmp
   have hc' : Calls Tryz.prog 76 #[.slice (some ⟨g,0,none⟩) L.length c,.func (.func 77) #[] #[]] w fun e w' => e=.returned (.tuple #[])∧∃ n os,w'=sortWorldK MoveM.vals 3 w g 0 n (sortM L).toArray os:=by
    have hc2:=hc
    rw [List.size_toArray] at hc2
    exact hc2
   refine hc'.mono ?_
   rintro e w' ⟨rfl,n,os,rfl⟩
   unfold sortWorldK putRowK
   rw [flat_vals]
   generalize hF : ((sortM L).flatMap MoveM.vals).toArray=F
   have hFs : F.size=L.length * 3:=by rw [← hF,List.size_toArray,len_vals,sortM_length]
   have hheap : ∀ k,k < w.heap.size→(grow (putRow id (Sort.ahead w n) g 0 F) os).heap[k]? = (w.heap.modify g (onCells (putCells id 0 F)))[k]?:=by
    intro k hk
    rw [heap_grow_old _ _ (by simpa using hk)]
    rfl
   refine ⟨rfl,⟨some ⟨g,0,none⟩,c,by rw [sortM_length],?_⟩,?_⟩
   ·refine ⟨by rw [len_vals],.inr ⟨g,c,putCells id 0 F cur,by rw [sortM_length],hb,?_,by rw [sortM_length]; exact hnc,hcm,by simp [putCells,hcs'],?_⟩⟩
    ·rw [hheap g hglt,Array.getElem?_modify,if_pos rfl,hg]
     rfl
    ·show (putCells id 0 F cur).toList.take ((sortM L).length * 3)=_
     rw [sortM_length]
     apply List.ext_getElem?
     intro i
     rw [List.getElem?_take]
     by_cases hi : i < L.length * 3
     ·rw [if_pos hi]
      have hic : i < cur.size:=by omega
      have e3 : ((sortM L).flatMap MoveM.vals)[i]? = F[i]?:=by rw [← hF]; simp
      rw [e3,Array.getElem?_toList]
      simp [putCells,hic,hi,hFs]
     ·rw [if_neg hi]
      rw [List.getElem?_eq_none]
      rw [len_vals,sortM_length]; omega
   ·refine ⟨hext.os,hext.tape,hext.output,?_,fun b hb' => ?_⟩
    ·have:=hext.size
     simp
     omega
    ·rw [hheap b (by have:=hext.size; omega),Array.getElem?_modify,if_neg (by have : w0.heap.size≤g:=hb; omega)]
     exact hext.block b hb'
end Go.Proofs.YtdoibgmmijhlfaaGreatDoor
