/- MovesSort MovesListP MakeP MovesMem EndsP -/
import Derived.Test.YtdoibgmmijhlfaaGreatB23
import Derived.Test.YtdoibgmmijhlfaaGreatB24
import Derived.Test.YtdoibgmmijhlfaaGreatB19
import Derived.Test.YtdoibgmmijhlfaaGreatB22
import Derived.Test.YtdoibgmmijhlfaaGreatB25
import Derived.WalkLawsBesides
namespace Go.Proofs.YtdoibgmmijhlfaaGreat
open Go.ChangeShapes Go.WideShapes Go.ChangeAt Go.RowKit Go.Shelf
set_option linter.unusedVariables false
open Go.Sort
instance : Inhabited MoveM:=⟨⟨0,0,0⟩⟩
theorem flat_vals (L : List MoveM) : flatK MoveM.vals 3 L.toArray=(L.flatMap MoveM.vals).toArray:=by
 refine ext_get! (by rw [size_flatK,List.size_toArray,List.size_toArray,len_vals]) fun t ht => ?_
 have ht' : t < L.length * 3:=by rw [size_flatK,List.size_toArray] at ht; exact ht
 have hk : t / 3 < L.length:=by omega
 have hv : (L.flatMap MoveM.vals)[t]? = (L[t / 3].vals)[t % 3]?:=by
  have:=flat_get MoveM.vals 3 (fun _ => rfl) L (t / 3) (t % 3) L[t / 3] (List.getElem?_eq_getElem hk) (by omega)
  rwa [show t / 3 * 3 + t % 3=t from by omega] at this
 rw [get_flatK _ _ _ _ (by simpa using ht')]
 have hl : t < (L.flatMap MoveM.vals).length:=by rw [len_vals]; exact ht'
 have h3 : t % 3 < (L[t / 3].vals).length:=by show t % 3 < 3; omega
 have e1 : ((L.flatMap MoveM.vals).toArray)[t]! = (L.flatMap MoveM.vals)[t]:=getElem!_pos _ t (by rw [List.size_toArray]; exact hl)
 have e2 : (L.toArray)[t / 3]! = L[t / 3]:=getElem!_pos _ _ (by rw [List.size_toArray]; exact hk)
 rw [e1,e2]
 rw [List.getElem?_eq_getElem hl,List.getElem?_eq_getElem h3] at hv
 injection hv with hv
 rw [hv]
 exact getElem!_pos (L[t / 3]).vals (t % 3) h3
instance (x y : MoveM) : Decidable (ltM x y):=by unfold ltM; infer_instance
theorem ltOf_iff {x y : MoveM} : ltOf cmpM x y=true ↔ ltM x y:=by unfold ltOf ltM; simp
theorem swo_cmp : SWO (ltOf cmpM) where
 irrefl x:=by
  have:=ltM_irrefl x
  unfold ltOf ltM at *
  simpa using this
 trans x y z h1 h2:=by
  rw [ltOf_iff] at *
  exact ltM_trans h1 h2
 ntrans x y z h1 h2:=by
  have a : ¬ ltM x y:=fun h => by rw [ltOf_iff.2 h] at h1; cases h1
  have b : ¬ ltM y z:=fun h => by rw [ltOf_iff.2 h] at h2; cases h2
  have : ¬ ltM x z:=by rw [ltM_iff] at *; omega
  cases h : ltOf cmpM x z
  ·rfl
  ·exact absurd (ltOf_iff.1 h) this
theorem total_cmp (x y : MoveM) (h1 : ltOf cmpM x y=false) (h2 : ltOf cmpM y x=false) : x=y:=by
 rcases ltM_total x y with h | h | h
 ·rw [ltOf_iff.2 h] at h1; cases h1
 ·exact h
 ·rw [ltOf_iff.2 h] at h2; cases h2
def sortM (L : List MoveM) : List MoveM:=L.mergeSort fun x y => !(ltOf cmpM) y x
theorem sortM_mem {L : List MoveM} {x : MoveM} : x ∈ sortM L ↔ x ∈ L:=(List.mergeSort_perm L _).mem_iff
theorem sortM_length (L : List MoveM) : (sortM L).length=L.length:=(List.mergeSort_perm L _).length_eq
theorem sortM_sorted (L : List MoveM) : (sortM L).Pairwise fun a b => ¬ ltM b a:=by
 have h:=List.pairwise_mergeSort (le:=fun x y => !(ltOf cmpM) y x) (fun a b c h1 h2 => by
  simp only [Bool.not_eq_true'] at *
  exact swo_cmp.ntrans c b a h2 h1) (fun a b => by
  rcases ltM_total a b with h | h | h
  ·have:=swo_cmp.trans a b a (ltOf_iff.2 h)
   cases h2 : ltOf cmpM b a
   ·simp
   ·exact absurd (ltOf_iff.1 (this h2)) (ltM_irrefl a)
  ·subst h; rw [swo_cmp.irrefl]; rfl
  ·cases h2 : ltOf cmpM a b
   ·simp
   ·exact absurd (ltM_trans h (ltOf_iff.1 h2)) (ltM_irrefl b)) L
 refine h.imp ?_
 intro a b hab hlt
 rw [ltOf_iff.2 hlt] at hab
 cases hab
theorem isAgg_move (w : World) : (isAgg 31).run Crz.prog w=.ok true w:=Crz.isAgg31 w
theorem sizeOf_move (w : World) : (Go.sizeOf 31).run Crz.prog w=.ok 3 w:=Crz.sizeOf31 w
def SortPost (w0 : World) (v : Value) (L : List MoveM) (e : Ending) (w' : World) : Prop:=e=.returned (.tuple #[])∧OwnM w0 w' v (sortM L)∧Ext w0 w'
theorem SortFunc_any (w0 w : World) (v : Value) (L : List MoveM) (h : OwnM w0 w v L) (hext : Ext w0 w) (hlen : L.length≤1000000) :
  Calls Crz.prog 61 #[v,.func (.func 62) #[] #[]] w (SortPost w0 v L):=by
 obtain ⟨A,c,rfl,hown⟩:=h
 by_cases h0 : L=[]
 ·subst h0
  have hc:=AnyF.slices_SortFunc_none Crz.sortM A c (.func (.func 62) #[] #[]) w
  refine hc.mono ?_
  rintro e w' ⟨rfl,rfl⟩
  exact ⟨rfl,by rw [show sortM []=[] from by simp [sortM]]; exact ⟨A,c,rfl,hown⟩,hext⟩
 ·rcases hown.2 with ⟨e1,e2⟩ | ⟨g,cap,cur,e1,hb,hg,hnc,hcm,hcs,ht⟩
  ·exact absurd (List.eq_nil_of_length_eq_zero e2) h0
  ·injection e1 with a b d
   subst a; subst d
   have ht' : cur.toList.take (L.length * 3)=L.flatMap MoveM.vals:=ht
   have hcs' : cur.size=c * 3:=hcs
   have hnc' : L.length≤c:=hnc
   have hH : HoldsK MoveM.vals 3 w g 0 L.toArray:=by
    unfold HoldsK
    rw [flat_vals]
    intro j hj
    have hj' : j < (L.flatMap MoveM.vals).length:=by rw [List.size_toArray] at hj; exact hj
    have hj3 : j < L.length * 3:=by rw [← len_vals]; exact hj'
    refine ⟨?_,by simp [World.frozen?,hg]⟩
    rw [Nat.zero_add,cell_of_row _ _ _ cur _ (0,0) hg]
    have e : (cur.toList.take (L.length * 3))[j]? = (L.flatMap MoveM.vals)[j]?:=by rw [ht']
    rw [List.getElem?_take,if_pos hj3,List.getElem?_eq_getElem hj'] at e
    rw [← Array.getElem?_toList,e]
    exact congrArg some (getElem!_pos ((L.flatMap MoveM.vals).toArray) j (by rw [List.size_toArray]; exact hj')).symm
   have eg : ∀ args w,(callFunc 62 args).run Crz.prog w=.ok (.enter 62 args) w:=enters_of Crz.func62 (by kernel_rfl) rfl
   have hcmp : CmpLays Crz.prog 62 #[] MoveM.vals 3 cmpM g 0 L.toArray.size w:=fun m os dk hs x y => cmpMoves_any x y _
   have hglt : g < w.heap.size:=(Array.getElem?_eq_some_iff.1 hg).1
   have hc:=AnyQ.slices_SortFunc_total Crz.sortM 3 isAgg_move sizeOf_move MoveM.vals (fun _ => rfl) (fun x u hu => by simp [MoveM.vals] at hu; rcases hu with rfl | rfl | rfl <;> rfl) cmpM swo_cmp 62 #[] g 0 c L.toArray w eg hcmp hH hglt (by simp; omega) total_cmp
   have hc' : Calls Crz.prog 61 #[.slice (some ⟨g,0,none⟩) L.length c,.func (.func 62) #[] #[]] w fun e w' => e=.returned (.tuple #[])∧∃ n os,w'=sortWorldK MoveM.vals 3 w g 0 n (sortM L).toArray os:=by
    have hc2:=hc
    rw [List.size_toArray] at hc2
    exact hc2
   refine hc'.mono ?_
   rintro e w' ⟨rfl,n,os,rfl⟩
   unfold sortWorldK putRowK
   rw [flat_vals]
   generalize hF : ((sortM L).flatMap MoveM.vals).toArray=F
   have hFs : F.size=L.length * 3:=by rw [← hF,List.size_toArray,len_vals,sortM_length]
   have hheap : ∀ k,k < w.heap.size→(grow (putRow id (Sort.ahead w n) g 0 F) os).heap[k]? = (w.heap.modify g (onCells (putCells id 0 F)))[k]?:=by
    intro k hk
    rw [heap_grow_old _ _ (by simpa using hk)]
    rfl
   refine ⟨rfl,⟨some ⟨g,0,none⟩,c,by rw [sortM_length],?_⟩,?_⟩
   ·refine ⟨by rw [len_vals],.inr ⟨g,c,putCells id 0 F cur,by rw [sortM_length],hb,?_,by rw [sortM_length]; exact hnc,hcm,by simp [putCells,hcs'],?_⟩⟩
    ·rw [hheap g hglt,Array.getElem?_modify,if_pos rfl,hg]
     rfl
    ·show (putCells id 0 F cur).toList.take ((sortM L).length * 3)=_
     rw [sortM_length]
     apply List.ext_getElem?
     intro i
     rw [List.getElem?_take]
     by_cases hi : i < L.length * 3
     ·rw [if_pos hi]
      have hic : i < cur.size:=by omega
      have e3 : ((sortM L).flatMap MoveM.vals)[i]? = F[i]?:=by rw [← hF]; simp
      rw [e3,Array.getElem?_toList]
      simp [putCells,hic,hi,hFs]
     ·rw [if_neg hi]
      rw [List.getElem?_eq_none]
      rw [len_vals,sortM_length]; omega
   ·refine ⟨hext.os,hext.tape,hext.output,?_,fun b hb' => ?_⟩
    ·have:=hext.size
     simp
     omega
    ·rw [hheap b (by have:=hext.size; omega),Array.getElem?_modify,if_neg (by have : w0.heap.size≤g:=hb; omega)]
     exact hext.block b hb'
end Go.Proofs.YtdoibgmmijhlfaaGreat
namespace Go.Proofs.YtdoibgmmijhlfaaGreat
open Go.ChangeShapes Go.WideShapes Go.ChangeAt Go.RowKit Go.Shelf
set_option linter.unusedVariables false
theorem stepsToM_succ (R : RulesM) (P : PosM) (k : Nat) : stepsToM R P (k + 1)=stepsToM R P k ++ stepsAt R P k:=by
 unfold stepsToM
 rw [List.range_succ,List.flatMap_append]
 simp
theorem stepsAt_not {R : RulesM} {P : PosM} {k : Nat} (h : ownB P k=false) : stepsAt R P k=[]:=by unfold stepsAt; rw [h]; rfl
theorem stepsAt_own {R : RulesM} {P : PosM} {k kk : Nat} {p : PieceM} (h : ownB P k=true) (e : (P.cells.getD k 0 - 1) / 2=(kk : Int)) (hp : R.pieces[kk]? = some p) : stepsAt R P k=stepsBy R P k kk p.promote p.ways:=by
 unfold stepsAt
 rw [if_pos h,e,Int.toNat_natCast,hp]
theorem stepsBy_succ {R : RulesM} {P : PosM} {s k j : Nat} {pr : Int} {ws : List WayM} {x : WayM} (h : ws[j]? = some x) : stepsBy R P s k pr (ws.take (j + 1))=stepsBy R P s k pr (ws.take j) ++ (wayM R P s x).map (stepTo R P s k pr):=by
 unfold stepsBy
 rw [List.take_add_one,h,List.flatMap_append]
 simp
theorem wayFrom_len (W H turn take dx dy : Int) (cs : List Int) : ∀ n x y,(wayFrom W H turn take dx dy cs n x y).length≤n
 | 0,_,_ => by simp [wayFrom]
 | n + 1,x,y => by
  have:=wayFrom_len W H turn take dx dy cs n (x + dx) (y + dy)
  unfold wayFrom
  split
  ·simp
  ·rw [List.length_append]
   split <;> split <;> simp <;> omega
theorem wayFrom_mem (W H turn take dx dy : Int) (cs : List Int) : ∀ n x y,∀ t ∈ wayFrom W H turn take dx dy cs n x y,0≤t∧t < W * H
 | 0,_,_,t,h => by simp [wayFrom] at h
 | n + 1,x,y,t,h => by
  unfold wayFrom at h
  split at h
  ·simp at h
  ·rename_i hb
   have hq:=sq_mk (a:=W) (b:=H) (x:=x + dx) (y:=y + dy) (by omega) (by omega) (by omega) (by omega)
   rw [List.mem_append] at h
   rcases h with h | h
   ·split at h
    ·simp at h; rw [h]; exact hq
    ·simp at h
   ·split at h
    ·exact wayFrom_mem W H turn take dx dy cs n _ _ t h
    ·simp at h
theorem wayM_len {R : RulesM} {P : PosM} {s : Nat} {x : WayM} (h : wayB x=true) : (wayM R P s x).length≤7:=by
 have:=wayFrom_len R.width R.height P.turn x.take x.dx (if P.turn=1 then -x.dy else x.dy) P.cells x.most.toNat ((s : Int) % R.width) ((s : Int) / R.width)
 have hb:=(wayB_bd h).2.2.1
 unfold wayM
 omega
theorem wayM_mem {R : RulesM} {P : PosM} {s : Nat} {x : WayM} {t : Int} (h : t ∈ wayM R P s x) : 0≤t∧t < R.width * R.height:=wayFrom_mem _ _ _ _ _ _ _ _ _ _ t h
theorem stepsBy_len {R : RulesM} {P : PosM} {s k : Nat} {pr : Int} : ∀ {ws : List WayM},(∀ x ∈ ws,wayB x=true)→(stepsBy R P s k pr ws).length≤7 * ws.length
 | [],_ => by simp [stepsBy]
 | x :: ws,h => by
  have h1:=wayM_len (R:=R) (P:=P) (s:=s) (h x (by simp))
  have h2:=stepsBy_len (R:=R) (P:=P) (s:=s) (k:=k) (pr:=pr) (ws:=ws) (fun y hy => h y (by simp [hy]))
  unfold stepsBy at *
  rw [List.flatMap_cons,List.length_append,List.length_map,List.length_cons]
  omega
theorem piece_get {R : RulesM} (hV : Valid R) {kk : Nat} {p : PieceM} (h : R.pieces[kk]? = some p) : (0≤p.promote∧p.promote≤6)∧p.ways.length≤16∧∀ x ∈ p.ways,wayB x=true:=by
 have:=piece_facts hV.piece (List.mem_of_getElem? h)
 have h6:=hV.pieces6
 exact ⟨by omega,this.2.2.2.1,this.2.2.2.2⟩
theorem stepsAt_len {R : RulesM} {P : PosM} (hV : Valid R) (k : Nat) : (stepsAt R P k).length≤112:=by
 unfold stepsAt
 split
 ·cases hp : R.pieces[((P.cells.getD k 0 - 1) / 2).toNat]? with
  | none => simp
  | some p =>
   obtain ⟨_,h1,h2⟩:=piece_get hV hp
   have:=stepsBy_len (R:=R) (P:=P) (s:=k) (k:=((P.cells.getD k 0 - 1) / 2).toNat) (pr:=p.promote) h2
   simp only
   omega
 ·simp
theorem stepsToM_len {R : RulesM} {P : PosM} (hV : Valid R) : ∀ k,(stepsToM R P k).length≤112 * k
 | 0 => by simp [stepsToM]
 | k + 1 => by
  have h1:=stepsToM_len (P:=P) hV k
  have h2:=stepsAt_len (P:=P) hV k
  rw [stepsToM_succ,List.length_append]
  omega
theorem putsM_len {R : RulesM} {P : PosM} (hV : Valid R) (hS : Sound R P) : (putsM R P).length≤384:=by
 have h6:=hV.pieces6
 have hh : P.hand.length≤6:=by
  unfold PosM.hand
  split
  ·rw [hS.len0]; exact h6
  ·rw [hS.len1]; exact h6
 have har:=area_bd _ _ hV.side
 have ha:=hS.area
 have:=putsTo_len R P hh P.cells.length
 unfold putsM
 omega
theorem OwnI.kept {w0 w1 w w' : World} {tv v : Value} {T : List Int} {L : List MoveM} (h : OwnI w0 w tv T) (hg : w.grownBy w' v.ownBlock) (hm : OwnM w1 w v L) : OwnI w0 w' tv T:=by
 obtain ⟨A,c,rfl,h⟩:=h
 obtain ⟨B,d,rfl,hm⟩:=hm
 exact ⟨A,c,rfl,h.kept hg (own_ne h hm (by decide))⟩
theorem wp_append_move_at {ops : Array Oper} {rest : List Oper} {o : Oper} {a : Act} {Q : Exit→Act→World→Prop} (s x : Operand) (hgd : o.guard=none)
  (ho : o.op=.call { callee:=.builtin .append,args:=#[s,x],argTypes:=#[69,69] }) (w0 w : World) (v : Value) (xs : List MoveM) (m : MoveM) (hs : a.eval s=v) (hown : OwnM w0 w v xs) (H : Nat) (hx : a.eval x=.slice (some ⟨H,0,none⟩) 1 1) (hH : w.heap.size=H)
  (hext : Ext w0 w) (hlen : xs.length≤1000000) (h : ∀ v' w',OwnM w0 w' v' (xs ++ [m])→Ext w0 w'→w.grownBy w' v.ownBlock→wpList Crz.prog ops Q rest (a.put o.dst v') w') :
  wpList Crz.prog ops Q (o :: rest) a (w.alloc (.cells #[.int .i64 m.src,.int .i64 m.dst,.int .i64 m.piece] 31)):=by
 subst hH
 exact wp_append_move s x hgd ho w0 w v xs m hs hown hx hext hlen h
theorem ownB_true {P : PosM} {k : Nat} {z : Int} (h : P.cells.getD k 0=z) (h0 : z ≠ 0) (h1 : (z - 1) % 2=P.turn) : ownB P k=true:=by
 unfold ownB; rw [h]; simp [h0,h1]
theorem ownB_false {P : PosM} {k : Nat} {z : Int} (h : P.cells.getD k 0=z) (h0 : z=0∨(z - 1) % 2 ≠ P.turn) : ownB P k=false:=by
 unfold ownB; rw [h]; rcases h0 with h0 | h0 <;> simp [h0]
structure CanStep (R : RulesM) (P : PosM) (s d q : Nat) : Prop where
 src : s < P.cells.length
 dst : d < P.cells.length
 ne : s ≠ d
 piece : q < R.pieces.length
structure CanPut (R : RulesM) (P : PosM) (d q : Nat) : Prop where
 dst : d < P.cells.length
 piece : q < R.pieces.length
 free : P.cells.getD d 0=0
theorem run_min2 (W : World) (ats : Array TypeId) (ty : TypeId) (a b : Int) : (Builtin.min_ ats ty #[.int .i64 a,.int .i64 b]).run Crz.prog W=.ok (.int .i64 (minI a b)) W:=by
 have e : minI a b=if b < a then b else a:=by unfold minI; split <;> split <;> omega
 rw [e]
 simp [Builtin.min_,Builtin.min2]
def MakePost (w : World) (Q : PosM) (e : Ending) (w' : World) : Prop:=∃ v',e=.returned v'∧PosOwn w' w.heap.size v' Q∧Ext w w'
end Go.Proofs.YtdoibgmmijhlfaaGreat
namespace Go.Proofs.YtdoibgmmijhlfaaGreat
set_option linter.unusedVariables false
theorem sq_x {a x y : Int} (hx0 : 0≤x) (hx : x < a) : (y * a + x) % a=x:=by
 rw [Int.add_comm,Int.add_mul_emod_self_right]
 exact Int.emod_eq_of_lt hx0 hx
theorem sq_y {a x y : Int} (hx0 : 0≤x) (hx : x < a) : (y * a + x) / a=y:=by
 rw [Int.add_comm,Int.add_mul_ediv_right _ _ (by omega),Int.ediv_eq_zero_of_lt hx0 hx,Int.zero_add]
theorem wayFrom_spec (W H turn take dx dy : Int) (cs : List Int) : ∀ n x y,∀ t ∈ wayFrom W H turn take dx dy cs n x y,
  ∃ j : Nat,1≤j∧j≤n∧0≤x + (j : Int) * dx∧x + (j : Int) * dx < W∧0≤y + (j : Int) * dy∧y + (j : Int) * dy < H∧t=(y + (j : Int) * dy) * W + (x + (j : Int) * dx)∧endsB turn take (cs.getD t.toNat 0)=true
 | 0,_,_,t,h => by simp [wayFrom] at h
 | n + 1,x,y,t,h => by
  unfold wayFrom at h
  split at h
  ·simp at h
  ·rename_i hb
   rw [List.mem_append] at h
   rcases h with h | h
   ·split at h
    ·rename_i he
     simp only [List.mem_singleton] at h
     subst h
     refine ⟨1,Nat.le_refl _,by omega,?_,?_,?_,?_,?_,he⟩ <;> simp only [Int.natCast_one,Int.one_mul] <;> omega
    ·simp at h
   ·split at h
    ·obtain ⟨j,j1,j2,a,b,c,d,e,f⟩:=wayFrom_spec W H turn take dx dy cs n _ _ t h
     have ex : x + dx + (j : Int) * dx=x + ((j + 1 : Nat) : Int) * dx:=by rw [Int.natCast_add,Int.add_mul]; simp; omega
     have ey : y + dy + (j : Int) * dy=y + ((j + 1 : Nat) : Int) * dy:=by rw [Int.natCast_add,Int.add_mul]; simp; omega
     rw [ex] at a b e
     rw [ey] at c d e
     exact ⟨j + 1,by omega,by omega,a,b,c,d,e,f⟩
    ·simp at h
theorem sq_of {W H : Int} {s : Nat} (hW : 1≤W) (hs : (s : Int) < W * H) : 0≤(s : Int) % W∧(s : Int) % W < W∧0≤(s : Int) / W∧(s : Int) / W < H∧(s : Int) / W * W + (s : Int) % W=s:=by
 have h1:=Int.emod_nonneg (s : Int) (show W ≠ 0 by omega)
 have h2:=Int.emod_lt_of_pos (s : Int) (show 0 < W by omega)
 have h3 : 0≤(s : Int) / W:=Int.ediv_nonneg (by omega) (by omega)
 have h4 : (s : Int) / W < H:=by
  apply Int.ediv_lt_of_lt_mul (by omega)
  rw [Int.mul_comm]; exact hs
 have h5:=Int.emod_add_mul_ediv (s : Int) W
 exact ⟨h1,h2,h3,h4,by rw [Int.mul_comm]; omega⟩
theorem endsB_cell {turn take c : Int} (h : endsB turn take c=true) : c=0∨(0 < c∧(c - 1) % 2 ≠ turn):=by
 unfold endsB at h
 simp only [Bool.or_eq_true,Bool.and_eq_true,decide_eq_true_eq] at h
 omega
theorem wayM_spec {R : RulesM} {P : PosM} {s : Nat} {x : WayM} {t : Int} (hV : Valid R) (hS : Sound R P) (hx : wayB x=true) (hs : s < P.cells.length) (h : t ∈ wayM R P s x) :
  ∃ d : Nat,t=d∧d < P.cells.length∧s ≠ d∧(P.cells.getD d 0=0∨(0 < P.cells.getD d 0∧(P.cells.getD d 0 - 1) % 2 ≠ P.turn)):=by
 have hm:=wayM_mem h
 unfold wayM at h
 obtain ⟨j,j1,j2,a,b,c,d,e,f⟩:=wayFrom_spec _ _ _ _ _ _ _ _ _ _ _ h
 have ha:=hS.area
 obtain ⟨s1,s2,s3,s4,s5⟩:=sq_of (W:=R.width) (H:=R.height) (s:=s) hV.side.1 (by omega)
 obtain ⟨k,rfl⟩:=Int.eq_ofNat_of_zero_le hm.1
 refine ⟨k,rfl,by omega,?_,endsB_cell (by simpa using f)⟩
 rintro rfl
 have ex:=sq_x (a:=R.width) (y:=(s : Int) / R.width + (j : Int) * (if P.turn=1 then -x.dy else x.dy)) a b
 have ey:=sq_y (a:=R.width) (y:=(s : Int) / R.width + (j : Int) * (if P.turn=1 then -x.dy else x.dy)) a b
 rw [← e] at ex ey
 have e1 : (j : Int) * x.dx=0:=by omega
 have e2 : (j : Int) * (if P.turn=1 then -x.dy else x.dy)=0:=by omega
 have hj : (j : Int) ≠ 0:=by omega
 have d1:=(Int.mul_eq_zero.1 e1).resolve_left hj
 have d2:=(Int.mul_eq_zero.1 e2).resolve_left hj
 have d3 : x.dy=0:=by split at d2 <;> omega
 unfold wayB at hx
 simp [d1,d3] at hx
theorem mem_listM {R : RulesM} {P : PosM} {m : MoveM} : m ∈ listM R P ↔ m ∈ rawM R P:=mem_listOf
theorem hand_len {R : RulesM} {P : PosM} (hS : Sound R P) : P.hand.length=R.pieces.length:=by
 unfold PosM.hand; split
 ·exact hS.len0
 ·exact hS.len1
theorem hand_held {R : RulesM} {P : PosM} (hS : Sound R P) : ∀ c ∈ P.hand,0≤c∧c≤1000:=by
 unfold PosM.hand; split
 ·exact hS.held0
 ·exact hS.held1
theorem getD_mem {l : List Int} {k : Nat} (h : k < l.length) : l.getD k 0 ∈ l:=by simp [h]
theorem rawM_cases {R : RulesM} {P : PosM} {m : MoveM} (hV : Valid R) (hS : Sound R P) (h : m ∈ rawM R P) :
  (∃ d q : Nat,m=⟨-1,d,q⟩∧CanPut R P d q∧0 < P.hand.getD q 0) ∨
  (∃ s d q : Nat,m=⟨s,d,q⟩∧CanStep R P s d q∧ownB P s=true∧(P.cells.getD d 0=0∨(0 < P.cells.getD d 0∧(P.cells.getD d 0 - 1) % 2 ≠ P.turn))):=by
 unfold rawM at h
 rcases List.mem_append.1 h with h | h
 ·unfold putsM putsTo at h
  obtain ⟨d,hd,h⟩:=List.mem_flatMap.1 h
  rw [List.mem_range] at hd
  split at h
  ·rename_i hp
   unfold putsAt at h
   obtain ⟨q,hq,h⟩:=List.mem_flatMap.1 h
   rw [List.mem_range] at hq
   split at h
   ·rename_i h0
    simp only [List.mem_singleton] at h
    refine .inl ⟨d,q,h,⟨hd,?_,?_⟩,h0⟩
    ·rw [← hand_len hS]; exact hq
    ·unfold putB at hp
     simp only [Bool.and_eq_true,decide_eq_true_eq] at hp
     exact hp.1
   ·simp at h
  ·simp at h
 ·unfold stepsToM at h
  obtain ⟨s,hs,h⟩:=List.mem_flatMap.1 h
  rw [List.mem_range] at hs
  unfold stepsAt at h
  split at h
  ·rename_i ho
   cases hp : R.pieces[((P.cells.getD s 0 - 1) / 2).toNat]? with
   | none => rw [hp] at h; simp at h
   | some p =>
    rw [hp] at h
    have hk:=(List.getElem?_eq_some_iff.1 hp).1
    obtain ⟨f1,f2,f3,f4,f5⟩:=piece_facts hV.piece (List.mem_of_getElem? hp)
    generalize ((P.cells.getD s 0 - 1) / 2).toNat=k at *
    unfold stepsBy at h
    obtain ⟨x,hx,h⟩:=List.mem_flatMap.1 h
    obtain ⟨t,ht,rfl⟩:=List.mem_map.1 h
    obtain ⟨d,rfl,g1,g2,g3⟩:=wayM_spec hV hS (f5 x hx) hs ht
    unfold stepTo
    split
    ·rename_i hpr
     obtain ⟨q,hq⟩:=Int.eq_ofNat_of_zero_le (show 0≤p.promote - 1 by omega)
     exact .inr ⟨s,d,q,by rw [hq],⟨hs,g1,g2,by omega⟩,ho,g3⟩
    ·exact .inr ⟨s,d,k,rfl,⟨hs,g1,g2,hk⟩,ho,g3⟩
  ·simp at h
theorem mem_set_le {l : List Int} {k : Nat} {x c : Int} {a b : Int} (h : ∀ c ∈ l,a≤c∧c≤b) (hx : a≤x∧x≤b) (hc : c ∈ l.set k x) : a≤c∧c≤b:=by
 rcases List.mem_or_eq_of_mem_set hc with h1 | h1
 ·exact h c h1
 ·rw [h1]; exact hx
theorem sound_make {R : RulesM} {P : PosM} {m : MoveM} (hV : Valid R) (hS : Sound R P) (h : m ∈ rawM R P) : Sound R (makeM R P m):=by
 have hq:=hS.quiet
 have ht:=hS.turn
 have hb1:=hand_len hS
 have hb2:=hand_held hS
 have main : ∀ (c1 h1 : List Int) (d q : Nat) (k : Int),(c1.length : Int)=R.width * R.height→(∀ c ∈ c1,0≤c∧c≤2 * (R.pieces.length : Int))→h1.length=R.pieces.length→(∀ c ∈ h1,0≤c∧c≤1000)→q < R.pieces.length→0≤k∧k≤200→∀ b : Bool,∀ kk : Nat,
   Sound R { cells:=c1.set d (2 * (q : Int) + P.turn + 1),hand0:=if P.turn=0 then (if b then setHand h1 kk (fun x => minI (x + 1) 1000) else h1) else P.hand0,hand1:=if P.turn=0 then P.hand1 else (if b then setHand h1 kk (fun x => minI (x + 1) 1000) else h1),turn:=1 - P.turn,quiet:=k }:=by
  intro c1 h1 d q k e1 e2 e3 e4 e5 e6 b kk
  have g1 : (if b then setHand h1 kk (fun x => minI (x + 1) 1000) else h1).length=R.pieces.length:=by
   split
   ·unfold setHand; rw [List.length_set]; exact e3
   ·exact e3
  have g2 : ∀ c ∈ (if b then setHand h1 kk (fun x => minI (x + 1) 1000) else h1),0≤c∧c≤1000:=by
   split
   ·intro c hc
    unfold setHand at hc
    by_cases hk : kk < h1.length
    ·have:=e4 _ (getD_mem hk)
     exact mem_set_le e4 (by show 0≤minI (h1.getD kk 0 + 1) 1000∧minI (h1.getD kk 0 + 1) 1000≤1000; unfold minI; split <;> omega) hc
    ·rw [List.set_eq_of_length_le (by omega)] at hc
     exact e4 c hc
   ·exact e4
  generalize (if b then setHand h1 kk (fun x => minI (x + 1) 1000) else h1)=h2 at *
  refine ⟨by simpa using e1,?_,?_,?_,?_,?_,?_,e6⟩
  ·show (if P.turn=0 then h2 else P.hand0).length=_
   split
   ·exact g1
   ·exact hS.len0
  ·show (if P.turn=0 then P.hand1 else h2).length=_
   split
   ·exact hS.len1
   ·exact g1
  ·intro c hc
   exact mem_set_le e2 (by omega) hc
  ·show ∀ c ∈ (if P.turn=0 then h2 else P.hand0),_
   split
   ·exact g2
   ·exact hS.held0
  ·show ∀ c ∈ (if P.turn=0 then P.hand1 else h2),_
   split
   ·exact hS.held1
   ·exact g2
  ·show (1 - P.turn=0∨1 - P.turn=1)
   omega
 rcases rawM_cases hV hS h with ⟨d,q,rfl,hc,hpos⟩ | ⟨s,d,q,rfl,hc,ho,hd⟩
 ·have hk : q < P.hand.length:=by rw [hb1]; exact hc.piece
  have:=main P.cells (setHand P.hand q (· - 1)) d q 0 hS.area hS.cells (by unfold setHand; rw [List.length_set]; exact hb1) (fun c h => by
   unfold setHand at h
   have:=hb2 _ (getD_mem hk)
   exact mem_set_le hb2 (by show 0≤P.hand.getD q 0 - 1∧P.hand.getD q 0 - 1≤1000; omega) h) hc.piece (by omega) (decide (0 < P.cells.getD d 0∧R.keeps=true)) ((P.cells.getD d 0 - 1) / 2).toNat
  unfold makeM
  simpa using this
 ·have:=main (P.cells.set s 0) P.hand d q (if 0 < P.cells.getD d 0 then 0 else minI (P.quiet + 1) 200) (by simpa using hS.area) (fun c h => mem_set_le hS.cells (by omega) h) hb1 hb2 hc.piece (by unfold minI; split <;> (try split) <;> omega) (decide (0 < P.cells.getD d 0∧R.keeps=true)) ((P.cells.getD d 0 - 1) / 2).toNat
  unfold makeM
  have e1 : (0 : Int)≤(s : Int):=by omega
  have e2 : ¬ ((s : Int) < 0):=by omega
  simpa [e1,e2] using this
def ownXY (W H : Int) (cs : List Int) (player x y : Int) : Bool :=
 if x < 0∨W≤x∨y < 0∨H≤y then false else decide (0 < cs.getD (y * W + x).toNat 0) && decide ((cs.getD (y * W + x).toNat 0 - 1) % 2=player)
def runXY (W H : Int) (cs : List Int) (player dx dy : Int) : Nat→Int→Int→Bool
 | 0,_,_ => true
 | n + 1,x,y => ownXY W H cs player x y && runXY W H cs player dx dy n (x + dx) (y + dy)
def lineAt (W H : Int) (cs : List Int) (player : Int) (n s : Nat) : Bool :=
 runXY W H cs player 1 0 n ((s : Int) % W) ((s : Int) / W) || (runXY W H cs player 0 1 n ((s : Int) % W) ((s : Int) / W) || (runXY W H cs player 1 1 n ((s : Int) % W) ((s : Int) / W) || runXY W H cs player 1 (-1) n ((s : Int) % W) ((s : Int) / W)))
def lineB (R : RulesM) (P : PosM) (player : Int) (n : Nat) : Bool:=(List.range P.cells.length).any (lineAt R.width R.height P.cells player n)
def reachB (R : RulesM) (P : PosM) (piece player : Int) : Bool:=(List.range P.cells.length).any fun s => decide (P.cells.getD s 0=2 * piece + player + 1) && lastM R player s
def countC (cs : List Int) (c : Int) : Nat:=(cs.filter fun x => decide (x=c)).length
def holdsB (R : RulesM) (P : PosM) (mover : Int) (x : EndM) : Bool :=
 if x.kind=0 then lineB R P mover x.count.toNat
 else if x.kind=1 then reachB R P x.piece mover
 else decide ((countC P.cells (2 * x.piece + 1 - mover + 1) : Int) < x.count)
def restM (R : RulesM) (P : PosM) : Int :=
 if R.quiet ≠ 0∧R.quiet≤P.quiet then 3
 else if 0 < (listM R P).length then 0
 else if R.blocked=0 then 1 + (1 - P.turn)
 else if R.blocked=1 then 1 + P.turn
 else 3
def resultM (R : RulesM) (P : PosM) : Int :=
 match R.ends.find? (holdsB R P (1 - P.turn)) with
 | some x => if x.loses then 1 + P.turn else 1 + (1 - P.turn)
 | none => restM R P
theorem runXY_succ (W H : Int) (cs : List Int) (p dx dy : Int) (n : Nat) (x y : Int) : runXY W H cs p dx dy (n + 1) x y=(ownXY W H cs p x y && runXY W H cs p dx dy n (x + dx) (y + dy)):=rfl
theorem any_range_true {f : Nat→Bool} {k n : Nat} (hk : k < n) (h : f k=true) : (List.range n).any f=true:=by
 rw [List.any_eq_true]; exact ⟨k,List.mem_range.2 hk,h⟩
theorem countC_take (cs : List Int) (c : Int) (k : Nat) (h : k < cs.length) : countC (cs.take (k + 1)) c=countC (cs.take k) c + (if cs.getD k 0=c then 1 else 0):=by
 unfold countC
 rw [List.take_succ_eq_append_getElem h,List.filter_append,List.length_append]
 have e : cs.getD k 0=cs[k]:=by simp [h]
 rw [e]
 by_cases hc : cs[k]=c <;> simp [hc]
theorem countC_le (cs : List Int) (c : Int) : countC cs c≤cs.length:=List.length_filter_le _ _
theorem ends_facts {R : RulesM} (hV : Valid R) {x : EndM} (hx : x ∈ R.ends) : (x.kind=0∧1≤x.count∧x.count≤64)∨(x.kind=1∧0≤x.piece∧x.piece≤R.pieces.length - 1)∨(x.kind=2∧1≤x.count∧x.count≤64∧0≤x.piece∧x.piece≤R.pieces.length - 1):=by
 have h6:=hV.ends6
 have he:=hV.ende
 unfold endsE at he
 rw [if_neg (by omega),firstE_zero] at he
 obtain ⟨i,hi,e⟩:=List.mem_iff_getElem.1 hx
 have h:=he i (Nat.zero_le _) (by omega)
 unfold endE at h
 rw [List.getElem?_eq_getElem hi,e] at h
 simp only at h
 split at h
 ·split at h
  ·rename_i h1 h2
   simp [inB] at h2
   exact .inl ⟨h1,h2.1⟩
  ·simp at h
 ·split at h
  ·split at h
   ·rename_i h1 h2
    simp [inB] at h2
    exact .inr (.inl ⟨h1,h2.2.1,by omega⟩)
   ·simp at h
  ·split at h
   ·split at h
    ·rename_i h1 h2
     simp [inB] at h2
     exact .inr (.inr ⟨h1,h2.1.1,h2.1.2,h2.2.1,by omega⟩)
    ·simp at h
   ·simp at h
end Go.Proofs.YtdoibgmmijhlfaaGreat
