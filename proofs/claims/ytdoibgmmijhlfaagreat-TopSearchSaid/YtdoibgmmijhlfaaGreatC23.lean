/- MovesCompact MovesCompact2 ZobOf Samples -/
import Derived.Test.YtdoibgmmijhlfaaGreatC16
import Derived.Lib.SliceRun
import Derived.Deep.LoopGhost
import Derived.Laws.StructEq
namespace Go.Proofs.YtdoibgmmijhlfaaGreat
open Go.ChangeShapes Go.WideShapes Go.ChangeAt Go.RowKit Go.Shelf
set_option linter.unusedVariables false
def MRow(w:World)(g c:Nat)(D:List MM):Prop:=∃ cur:Array Value,w.heap[g]? = some (.cells cur 31 (0,0))∧cur.size=c * 3∧cur.toList.take (D.length * 3)=D.flatMap MM.vals∧D.length≤c∧c≤maxLen
section
variable {w w':World}{g c:Nat}{D:List MM}
theorem MRow.cell(h:MRow w g c D){j i:Nat}{x:MM}{v:Value}(hj:D[j]? = some x)(hi:x.vals[i]? = some v):w.cell? ⟨g,j * 3+i,none⟩=some v:=by
 obtain⟨cur,h,hs,ht,_⟩:=h
 have hi3:i<3:=(List.getElem?_eq_some_iff.1 hi).1
 have hjl:j<D.length:=(List.getElem?_eq_some_iff.1 hj).1
 have e:=flat_get MM.vals 3 (fun _=>rfl) D j i x hj hi3
 rw [cell_of_row _ _ _ cur _ (0,0) h,← Array.getElem?_toList]
 have e2:(cur.toList.take (D.length * 3))[j * 3+i]? = x.vals[i]?:=by rw [ht,e]
 rw [List.getElem?_take,if_pos (by omega)] at e2
 rw [e2,hi]
theorem MRow.frozen(h:MRow w g c D)(i:Nat):w.frozen? ⟨g,i,none⟩=false:=by
 obtain⟨cur,h,_⟩:=h
 simp [World.frozen?,h]
theorem MRow.isSome(h:MRow w g c D){i:Nat}(hi:i<c * 3):(w.cell? ⟨g,i,none⟩).isSome=true:=by
 obtain⟨cur,h,hs,_⟩:=h
 rw [cell_of_row _ _ _ cur _ (0,0) h]
 simp [hs,hi]
theorem MRow.drewN(h:MRow w g c D)(n:Nat):MRow (w.drewN n) g c D:=h
theorem flat_set(D:List MM)(j:Nat)(m:MM)(hj:j<D.length):(D.set j m).flatMap MM.vals=(((D.flatMap MM.vals).set (j * 3) (.int .i64 m.src)).set (j * 3+1) (.int .i64 m.dst)).set (j * 3+2) (.int .i64 m.piece):=by
 induction D generalizing j with
 | nil=>simp at hj
 | cons a l ih =>
  cases j with
  | zero=>simp [MM.vals]
  | succ j =>
   have:=ih j (by simpa using hj)
   simp only [List.set_cons_succ,List.flatMap_cons,this,MM.vals,Nat.add_mul,Nat.one_mul,List.cons_append,List.nil_append]
theorem MRow.set3(h:MRow w g c D){j:Nat}(hj:j<D.length)(m:MM):MRow (((w.setCell ⟨g,j * 3,none⟩ (.int .i64 m.src)).setCell ⟨g,j * 3+1,none⟩ (.int .i64 m.dst)).setCell ⟨g,j * 3+2,none⟩ (.int .i64 m.piece)) g c (D.set j m):=by
 obtain⟨cur,h,hs,ht,hl,hm⟩:=h
 refine⟨((cur.setIfInBounds (j * 3) (.int .i64 m.src)).setIfInBounds (j * 3+1) (.int .i64 m.dst)).setIfInBounds (j * 3+2) (.int .i64 m.piece),?_,by simp [hs],?_,by simpa using hl,hm⟩
 ·simp [World.setCell,Array.getElem?_modify,h]
 ·rw [List.length_set,flat_set D j m hj,← ht]
  simp only [Array.toList_setIfInBounds,List.take_set]
theorem MRow.prefix_(h:MRow w g c D)(E:List MM)(n:Nat)(he:D.take n=E)(hn:n≤D.length):MRow w g c E:=by
 obtain⟨cur,h,hs,ht,hl,hm⟩:=h
 subst he
 refine⟨cur,h,hs,?_,by rw [List.length_take];omega,hm⟩
 have e1:(D.take n).length=n:=by rw [List.length_take];omega
 rw [e1]
 have e2:cur.toList.take (n * 3)=(cur.toList.take (D.length * 3)).take (n * 3):=by rw [List.take_take,Nat.min_eq_left (by omega)]
 rw [e2,ht]
 have e3:D.flatMap MM.vals=(D.take n).flatMap MM.vals++(D.drop n).flatMap MM.vals:=by rw [← List.flatMap_append,List.take_append_drop]
 have e4:((D.take n).flatMap MM.vals).length=n * 3:=by rw [len_vals,e1]
 rw [e3,List.take_append_of_le_length (by omega),List.take_of_length_le (by omega)]
end
theorem own_mrow{w0 w:World}{A:Option Addr}{c:Nat}{L:List MM}(h:w.ownsRow w0.heap.size 31 3 (.slice A L.length c) L.length (L.flatMap MM.vals))(h1:L≠[]):∃ g,A=some ⟨g,0,none⟩∧w0.heap.size≤g∧MRow w g c L:=by
 rcases h.2 with ⟨e1,e2⟩ | ⟨g,cap,cur,e1,hb,hg,hnc,hcm,hcs,ht⟩
 ·exact absurd (List.eq_nil_of_length_eq_zero e2) h1
 ·injection e1 with a b d
  subst a;subst d
  exact⟨g,rfl,hb,cur,hg,hcs,ht,hnc,hcm⟩
theorem mrow_own{w0 w:World}{g c:Nat}{L:List MM}(h:MRow w g c L)(hb:w0.heap.size≤g):OwnM w0 w (.slice (some ⟨g,0,none⟩) L.length c) L:=by
 obtain⟨cur,hg,hs,ht,hl,hm⟩:=h
 exact⟨_,c,rfl,by rw [len_vals],.inr ⟨g,c,cur,rfl,hb,hg,hl,hm,hs,ht⟩⟩
theorem dedup_snoc:∀ (l:List MM) (x y:MM),dedup (l++[x,y])=if x=y then dedup (l++[x]) else dedup (l++[x])++[y]
 | [],x,y=>by by_cases h:x=y <;> simp [dedup,h]
 | [a],x,y=>by
  by_cases h:x=y
  ·subst h;by_cases h2:a=x <;> simp [dedup,h2]
  ·by_cases h2:a=x <;> simp [dedup,h,h2]
 | a :: b :: l,x,y=>by
  have ih:=dedup_snoc (b :: l) x y
  simp only [List.cons_append] at ih ⊢
  unfold dedup
  by_cases h:a=b
  ·rw [if_pos h,if_pos h,ih]
  ·rw [if_neg h,if_neg h,ih]
   split <;> simp
theorem take_two{L:List MM}{m:Nat}{x y:MM}(h1:1≤m)(hx:L[m-1]? = some x)(hy:L[m]? = some y):L.take (m+1)=L.take (m-1)++[x,y]∧L.take m=L.take (m-1)++[x]:=by
 obtain⟨k,rfl⟩:∃ k,m=k+1:=⟨m-1,by omega⟩
 rw [Nat.add_sub_cancel] at hx ⊢
 have a:L.take (k+1)=L.take k++[x]:=by rw [List.take_add_one,hx];rfl
 constructor
 ·rw [List.take_add_one,hy,a];simp
 ·exact a
theorem dedup_take{L:List MM}{m:Nat}{x y:MM}(h1:1≤m)(hx:L[m-1]? = some x)(hy:L[m]? = some y):dedup (L.take (m+1))=if x=y then dedup (L.take m) else dedup (L.take m)++[y]:=by
 obtain⟨a,b⟩:=take_two h1 hx hy
 rw [a,b,dedup_snoc]
theorem dedup_le:∀ l:List MM,(dedup l).length≤l.length
 | []=>by simp [dedup]
 | [x]=>by simp [dedup]
 | x :: y :: l=>by
  have:=dedup_le (y :: l)
  unfold dedup
  split
  ·simp at this ⊢;omega
  ·simp at this ⊢;omega
def half(L:List MM)(m:Nat):List MM:=dedup (L.take m)++L.drop (dedup (L.take m)).length
theorem half_length{L:List MM}{m:Nat}(hm:m≤L.length):(half L m).length=L.length:=by
 have:=dedup_le (L.take m)
 unfold half
 rw [List.length_append,List.length_drop]
 rw [List.length_take] at this
 omega
theorem half_get{L:List MM}{m j:Nat}(h:(dedup (L.take m)).length≤j):(half L m)[j]? = L[j]?:=by
 unfold half
 rw [List.getElem?_append_right h,List.getElem?_drop]
 congr 1
 omega
theorem mrow_setCell{w:World}{g c p i:Nat}{E:List MM}(h:MRow w g c E)(hp:E.length=p)(hi:p * 3≤i)(v:Value):MRow (w.setCell ⟨g,i,none⟩ v) g c E:=by
 obtain⟨cur,h,hs,ht,hl,hm⟩:=h
 refine⟨cur.setIfInBounds i v,?_,by simp [hs],?_,hl,hm⟩
 ·simp [World.setCell,Array.getElem?_modify,h]
 ·rw [← ht,hp,Array.toList_setIfInBounds]
  apply List.ext_getElem?
  intro j
  rw [List.getElem?_take,List.getElem?_take]
  split
  ·rw [List.getElem?_set_ne (by omega)]
  ·rfl
theorem mrow_setCells{g c p:Nat}{E:List MM}(hp:E.length=p):∀ (vs:List Value) (w:World) (i:Nat),MRow w g c E→p * 3≤i→MRow (w.setCells g i vs) g c E
 | [],_,_,h,_=>h
 | v :: vs,w,i,h,hi=>mrow_setCells hp vs _ (i+1) (mrow_setCell h hp hi v) (by omega)
theorem ext_setCells{w0:World}{g:Nat}(hg:w0.heap.size≤g):∀ (vs:List Value) (w:World) (i:Nat),Ext w0 w→Ext w0 (w.setCells g i vs)
 | [],_,_,h=>h
 | v :: vs,w,i,h=>ext_setCells hg vs _ (i+1) (qS h (p:=⟨g,i,none⟩) hg v)
def zeros(n:Nat):List Value:=(Builtin.zeroCells (Value.agg #[.int .i64 0,.int .i64 0,.int .i64 0]).cells n).toList
theorem zeros_one(n:Nat):∀ v∈zeros n,v.oneCell'=true:=by
 intro v hv
 unfold zeros Builtin.zeroCells at hv
 simp [Value.cells] at hv
 obtain⟨i,_,rfl⟩:=hv
 rcases(by omega:i % 3=0∨i % 3=1∨i % 3=2) with e | e | e <;> simp [e,Value.oneCell']
theorem zeros_length(n:Nat):(zeros n).length=n * 3:=by simp [zeros,Builtin.zeroCells,Value.cells]
theorem run_clear_move(w:World)(ty:TypeId)(g o n c:Nat)(hn:0<n)(hc:∀ j,j<n * 3→(w.cell? ⟨g,o+j,none⟩).isSome=true)(hf:∀ j,w.frozen? ⟨g,j,none⟩=false) :
  (Builtin.clear_ #[69] ty #[.slice (some ⟨g,o,none⟩) n c]).run Crz.prog w=.ok (.tuple #[]) (w.setCells g o (zeros n)):=by
 have hst:=run_storeCells_cells (P:=Crz.prog) g o (zeros n) 0 w (by rw [zeros_length];simpa using hc) (fun j _=>hf _) (zeros_one n)
 simp only [Nat.add_zero] at hst
 obtain⟨m,rfl⟩:∃ m,n=m+1:=⟨n-1,by omega⟩
 have e:(Builtin.zeroCells (Value.agg #[.int .i64 0,.int .i64 0,.int .i64 0]).cells (m+1)).toList=zeros (m+1):=rfl
 simp [Builtin.clear_,run_underlying Crz.underlying69,e,hst]
theorem half_skip{L:List MM}{m:Nat}(h:dedup (L.take (m+1))=dedup (L.take m)):half L (m+1)=half L m:=by unfold half;rw [h]
theorem half_step{L:List MM}{m p:Nat}{y:MM}(h:dedup (L.take (m+1))=dedup (L.take m)++[y])(hp:(dedup (L.take m)).length=p)(hl:p<L.length):half L (m+1)=(half L m).set p y:=by
 unfold half
 rw [h,List.length_append,hp,List.set_append_right p y (by omega),hp,Nat.sub_self]
 obtain⟨z,hz⟩:∃ z,L[p]? = some z:=⟨L[p],List.getElem?_eq_getElem _⟩
 have:L.drop p=z :: L.drop (p+1):=by
  rw [List.drop_eq_getElem_cons hl]
  rw [List.getElem?_eq_getElem hl] at hz
  injection hz with hz
  rw [hz]
 rw [this,List.set_cons_zero,List.append_assoc]
 rfl
theorem half_take{L:List MM}{m p:Nat}(hp:(dedup (L.take m)).length=p):(half L m).take p=dedup (L.take m):=by
 unfold half
 rw [List.take_append_of_le_length (by omega),List.take_of_length_le (by omega)]
def CompPost(w0:World)(L:List MM)(e:Ending)(w':World):Prop:=∃ v',e=.returned v'∧OwnM w0 w' v' (dedup L)∧Ext w0 w'
theorem Compact_short(w0 w:World)(v:Value)(L:List MM)(h:OwnM w0 w v L)(hext:Ext w0 w)(hlen:L.length<2) :
  Calls Crz.prog 65 #[v] w (CompPost w0 L):=by
 have hd:dedup L=L:=by
  match L,hlen with
  | [],_=>rfl
  | [x],_=>rfl
 have HD:=hide hd
 have H:=hide h
 obtain⟨A,c,rfl,-⟩:=h
 clear hd
 go_enter Crz.func65,Tryz.ntmps65
 go_wp2
 go_ret
 exact⟨_,rfl,by rw [HD.out];exact H.out,hext⟩
theorem move_ne{x y:MM}(h:x≠y):(x.src≠y.src)∨(x.src=y.src∧x.dst≠y.dst)∨(x.src=y.src∧x.dst=y.dst∧x.piece≠y.piece):=by
 have:¬ (x.src=y.src∧x.dst=y.dst∧x.piece=y.piece):=fun ⟨a,b,c⟩=>h (moveM_ext a b c)
 omega
set_option maxHeartbeats 4000000 in
set_option maxRecDepth 100000 in
theorem Compact_long(w0 w:World)(g c:Nat)(L:List MM)(h:MRow w g c L)(hg:w0.heap.size≤g)(hext:Ext w0 w)(hlen:2≤L.length)(hmax:L.length≤1000000)(hc:L.length≤c)(hcm:c≤9223372036854775807) :
  Calls Crz.prog 65 #[.slice (some ⟨g,0,none⟩) L.length c] w (CompPost w0 L):=by
 have H:=hide h
 have HX:=hide hext
 clear h hext
 go_enter Crz.func65,Tryz.ntmps65
 go_wp2
 go_loopg [3] L.length (fun gh s3 wr=>∃ k q:Nat,k+1≤L.length∧L.length-(k+1)≤gh∧s3=.int .i64 ((k+1:Nat):Int)∧wr=w.drewN q∧Hid (dedup (L.take (k+1))=L.take (k+1)))
 case atStart=>exact⟨0,0,by omega,by omega,rfl,rfl,hide (by match L,hlen with | a :: b :: l,_=>rfl)⟩
 case round =>
  obtain⟨k,q,hk,hgh,rfl,rfl,hd⟩:=hrel
  by_cases hlt:k+1<L.length
  ·obtain⟨x,hx⟩:∃ x,L[k]? = some x:=⟨L[k],List.getElem?_eq_getElem _⟩
   obtain⟨y,hy⟩:∃ y,L[k+1]? = some y:=⟨L[k+1],List.getElem?_eq_getElem _⟩
   have HDT:=hide (dedup_take (m:=k+1) (by omega) hx hy)
   have x0:=H.out.cell (i:=0) hx rfl
   have x1:=H.out.cell (i:=1) hx rfl
   have x2:=H.out.cell (i:=2) hx rfl
   have y0:=H.out.cell (i:=0) hy rfl
   have y1:=H.out.cell (i:=1) hy rfl
   have y2:=H.out.cell (i:=2) hy rfl
   have HX2:=hide hx
   have HY2:=hide hy
   clear hx hy
   have i0:(0:Int)≤(k:Int)+1:=by omega
   have i1:(k:Int)+1<(L.length:Int):=by omega
   have i2:(k:Int)<(L.length:Int):=by omega
   have i3:((k:Int)+1).toNat=k+1:=by omega
   have i4:IntKind.i64.wrap ((k:Int)+1-1)=k:=by rw [IntKind.wrap_i64];omega
   have y0':w.cell? ⟨g,(k+1) * 3,none⟩=some (.int .i64 y.src):=y0
   have x0':w.cell? ⟨g,k * 3,none⟩=some (.int .i64 x.src):=x0
   clear x0 y0
   by_cases hxy:x=y
   ·subst hxy
    have i5:(k:Int)+1≤(c:Int):=by omega
    have i6:k+1<c:=by omega
    have HDE:=hide (HDT.out.trans (if_pos rfl))
    go_wp2_with fail
    go_quiet (fail)
    go_wp2
    clear x0' x1 x2 y0' y1 y2 i0 i1 i2 i3 i4
    have hlen2:(dedup (L.take (k+2))).length=k+1:=by
     rw [show k+2=k+1+1 from rfl,HDE.out,hd.out,List.length_take];omega
    have hhalf:half L (k+2)=L:=by
     have e:dedup (L.take (k+2))=L.take (k+1):=HDE.out.trans hd.out
     unfold half
     rw [e,List.length_take,Nat.min_eq_left (by omega),List.take_append_drop]
    have HL2:=hide hlen2
    have HH2:=hide hhalf
    clear hlen2 hhalf
    have XQ:=hide (qD HX.out (q+nq))
    have HM0:=hide (H.out.drewN (q+nq))
    go_loopg [3,5] L.length (fun gh s3 s5 wr=>∃ j p:Nat,k+j+2≤L.length∧L.length-(k+j+2)≤gh∧s5=.int .i64 ((j+1:Nat):Int)∧s3=.int .i64 (p:Int)∧Hid ((dedup (L.take (k+j+2))).length=p)∧p+1≤k+j+2∧Hid (MRow wr g c (half L (k+j+2)))∧Hid (Ext w0 wr))
    case atStart=>exact⟨0,k+1,by omega,by omega,by go_num,by go_num,HL2,by omega,hide (by rw [show k+0+2=k+2 from rfl,HH2.out];exact HM0.out),XQ⟩
    case round =>
     obtain⟨j,p,hj,hgj,rfl,rfl,hp,hpj,hm,hx0⟩:=hrel
     by_cases hlt2:k+j+2<L.length
     ·obtain⟨a,ha⟩:∃ a,L[k+j+1]? = some a:=⟨L[k+j+1],List.getElem?_eq_getElem _⟩
      obtain⟨b,hb⟩:∃ b,L[k+j+2]? = some b:=⟨L[k+j+2],List.getElem?_eq_getElem _⟩
      obtain⟨z,hz⟩:∃ z,L[p]? = some z:=⟨L[p]'(by omega),List.getElem?_eq_getElem _⟩
      have HDJ:=hide (dedup_take (m:=k+j+2) (by omega) ha hb)
      have ha':=(half_get (L:=L) (m:=k+j+2) (j:=k+j+1) (by rw [hp.out];omega)).trans ha
      have hb':=(half_get (L:=L) (m:=k+j+2) (j:=k+j+2) (by rw [hp.out];omega)).trans hb
      have hz':=(half_get (L:=L) (m:=k+j+2) (j:=p) (by rw [hp.out];omega)).trans hz
      have a0:=hm.out.cell (i:=0) ha' rfl
      have a1:=hm.out.cell (i:=1) ha' rfl
      have a2:=hm.out.cell (i:=2) ha' rfl
      have b0:=hm.out.cell (i:=0) hb' rfl
      have b1:=hm.out.cell (i:=1) hb' rfl
      have b2:=hm.out.cell (i:=2) hb' rfl
      have z0:=hm.out.cell (i:=0) hz' rfl
      have z1:=hm.out.cell (i:=1) hz' rfl
      have z2:=hm.out.cell (i:=2) hz' rfl
      have zf:=hm.out.frozen
      have e1:(k+j+1) * 3=(k+1) * 3+j * 3:=by omega
      have e2:(k+j+2) * 3=(k+1) * 3+(j+1) * 3:=by omega
      rw [e1] at a0 a1 a2
      rw [e2] at b0 b1 b2
      have a0':wr.cell? ⟨g,(k+1) * 3+j * 3,none⟩=some (.int .i64 a.src):=a0
      have b0':wr.cell? ⟨g,(k+1) * 3+(j+1) * 3,none⟩=some (.int .i64 b.src):=b0
      have z0':wr.cell? ⟨g,p * 3,none⟩=some (.int .i64 z.src):=z0
      clear ha hb hz ha' hb' hz' e1 e2 a0 b0 z0
      have j0:(0:Int)≤(j:Int)+1:=by omega
      have j1:(j:Int)+1<((L.length-(k+1):Nat):Int):=by omega
      have j2:(j:Int)<((L.length-(k+1):Nat):Int):=by omega
      have j3:((j:Int)+1).toNat=j+1:=by omega
      have j4:IntKind.i64.wrap ((j:Int)+1-1)=j:=by rw [IntKind.wrap_i64];omega
      have j5:(p:Int)<(L.length:Int):=by omega
      have j6:(j:Int)+2≤1000000:=by omega
      by_cases hab:a=b
      ·subst hab
       have HD2:=hide (HDJ.out.trans (if_pos rfl))
       clear z0' z1 z2 zf HDJ
       go_wp2_with fail
       go_quiet (fail)
       go_wp2
       go_roundg (L.length-(k+j+3))
       case rel=>exact⟨j+1,p,by omega,by omega,by go_num,rfl,hide (by rw [show k+(j+1)+2=k+j+2+1 from by omega,HD2.out];exact hp.out),by omega,hide (by rw [show k+(j+1)+2=k+j+2+1 from by omega,half_skip HD2.out];exact hm.out.drewN _),hide (qD hx0.out _)⟩
       case measure=>omega
      ·have HD2:=hide (HDJ.out.trans (if_neg hab))
       have hba:b≠a:=fun h=>hab h.symm
       clear HDJ hab
       rcases move_ne hba with h1 | ⟨e1,h1⟩ | ⟨e1,e2,h1⟩
       ·have t1:(b.src == a.src)=false:=by simpa using h1
        clear h1
        try clear e1
        try clear e2
        go_wp2_with fail
        go_quiet (fail)
        go_wp2
        go_roundg (L.length-(k+j+3))
        case rel =>
         have hs:=(hm.out.drewN nq).set3 (j:=p) (by rw [half_length (by omega)];omega) b
         rw [← half_step HD2.out hp.out (by omega)] at hs
         exact⟨j+1,p+1,by omega,by omega,by go_num,by go_num,hide (by rw [show k+(j+1)+2=k+j+2+1 from by omega,HD2.out,List.length_append,hp.out];rfl),by omega,hide (by rw [show k+(j+1)+2=k+j+2+1 from by omega];exact hs),hide (qS (qS (qS (qD hx0.out _) (p:=⟨g,p * 3,none⟩) hg _) (p:=⟨g,p * 3+1,none⟩) hg _) (p:=⟨g,p * 3+2,none⟩) hg _)⟩
        case measure=>omega
       ·have t1:(b.src == a.src)=true:=by simpa using e1
        have t2:(b.dst == a.dst)=false:=by simpa using h1
        clear h1
        try clear e1
        try clear e2
        go_wp2_with fail
        go_quiet (fail)
        go_wp2
        go_roundg (L.length-(k+j+3))
        case rel =>
         have hs:=(hm.out.drewN nq).set3 (j:=p) (by rw [half_length (by omega)];omega) b
         rw [← half_step HD2.out hp.out (by omega)] at hs
         exact⟨j+1,p+1,by omega,by omega,by go_num,by go_num,hide (by rw [show k+(j+1)+2=k+j+2+1 from by omega,HD2.out,List.length_append,hp.out];rfl),by omega,hide (by rw [show k+(j+1)+2=k+j+2+1 from by omega];exact hs),hide (qS (qS (qS (qD hx0.out _) (p:=⟨g,p * 3,none⟩) hg _) (p:=⟨g,p * 3+1,none⟩) hg _) (p:=⟨g,p * 3+2,none⟩) hg _)⟩
        case measure=>omega
       ·have t1:(b.src == a.src)=true:=by simpa using e1
        have t2:(b.dst == a.dst)=true:=by simpa using e2
        have t3:(b.piece == a.piece)=false:=by simpa using h1
        clear h1
        try clear e1
        try clear e2
        go_wp2_with fail
        go_quiet (fail)
        go_wp2
        go_roundg (L.length-(k+j+3))
        case rel =>
         have hs:=(hm.out.drewN nq).set3 (j:=p) (by rw [half_length (by omega)];omega) b
         rw [← half_step HD2.out hp.out (by omega)] at hs
         exact⟨j+1,p+1,by omega,by omega,by go_num,by go_num,hide (by rw [show k+(j+1)+2=k+j+2+1 from by omega,HD2.out,List.length_append,hp.out];rfl),by omega,hide (by rw [show k+(j+1)+2=k+j+2+1 from by omega];exact hs),hide (qS (qS (qS (qD hx0.out _) (p:=⟨g,p * 3,none⟩) hg _) (p:=⟨g,p * 3+1,none⟩) hg _) (p:=⟨g,p * 3+2,none⟩) hg _)⟩
        case measure=>omega
     ·have hend:k+j+2=L.length:=by omega
      have hp':(dedup L).length=p:=by
       have:=hp.out
       rwa [hend,List.take_length] at this
      have hm':MRow wr g c (half L L.length):=by
       have:=hm.out
       rwa [hend] at this
      have HP:=hide hp'
      have hpl:p<L.length:=by omega
      have hcl:∀ ty,(Builtin.clear_ #[69] ty #[.slice (some ⟨g,p * 3,none⟩) (L.length-p) (c-p)]).run Crz.prog wr=.ok (.tuple #[]) (wr.setCells g (p * 3) (zeros (L.length-p))) :=
       fun ty=>run_clear_move wr ty g (p * 3) _ _ (by omega) (fun j hj=>hm'.isSome (by omega)) hm'.frozen
      have HM':=hide hm'
      have n1:(p:Int)≤(L.length:Int):=by omega
      have n2:(p:Int)≤(c:Int):=by omega
      have n3:p<c:=by omega
      have n4:¬ ((j:Int)+1<((L.length-(k+1):Nat):Int)):=by omega
      clear hp hm hp' hm' hend
      go_wp2
      go_ret
      have hE:(half L L.length).take p=dedup L:=by
       have:=half_take (L:=L) (m:=L.length) (p:=p) (by rw [List.take_length];exact HP.out)
       rwa [List.take_length] at this
      have hk:=mrow_setCells (p:=p) HP.out (zeros (L.length-p)) wr (p * 3) (HM'.out.prefix_ _ p hE (by rw [half_length (Nat.le_refl _)];omega)) (Nat.le_refl _)
      refine⟨_,rfl,?_,ext_setCells hg _ _ _ hx0.out⟩
      have:=mrow_own (w0:=w0) hk hg
      rwa [HP.out] at this
   ·have HDE:=hide (HDT.out.trans (if_neg hxy))
    have hyx:y≠x:=fun h=>hxy h.symm
    have HDN:Hid (dedup (L.take (k+1+1))=L.take (k+1+1)):=hide (by rw [HDE.out,hd.out,List.take_add_one (i:=k+1),HY2.out];rfl)
    clear hxy HDE
    rcases move_ne hyx with h1 | ⟨e1,h1⟩ | ⟨e1,e2,h1⟩
    ·have t1:(y.src == x.src)=false:=by simpa using h1
     clear h1
     try clear e1
     try clear e2
     go_wp2_with fail
     go_quiet (fail)
     go_wp2
     go_roundg (L.length-(k+2))
     case rel=>exact⟨k+1,_,by omega,Nat.le_refl _,by go_num,rfl,HDN⟩
     case measure=>omega
    ·have t1:(y.src == x.src)=true:=by simpa using e1
     have t2:(y.dst == x.dst)=false:=by simpa using h1
     clear h1
     try clear e1
     try clear e2
     go_wp2_with fail
     go_quiet (fail)
     go_wp2
     go_roundg (L.length-(k+2))
     case rel=>exact⟨k+1,_,by omega,Nat.le_refl _,by go_num,rfl,HDN⟩
     case measure=>omega
    ·have t1:(y.src == x.src)=true:=by simpa using e1
     have t2:(y.dst == x.dst)=true:=by simpa using e2
     have t3:(y.piece == x.piece)=false:=by simpa using h1
     clear h1
     try clear e1
     try clear e2
     go_wp2_with fail
     go_quiet (fail)
     go_wp2
     go_roundg (L.length-(k+2))
     case rel=>exact⟨k+1,_,by omega,Nat.le_refl _,by go_num,rfl,HDN⟩
     case measure=>omega
  ·have hend:k+1=L.length:=by omega
   have hdd:dedup L=L:=by
    have:=hd.out
    rwa [hend,List.take_length] at this
   have HDD:=hide hdd
   clear hd hdd
   go_wp2
   go_ret
   exact⟨_,rfl,by rw [HDD.out];exact mrow_own (H.out.drewN _) hg,qD HX.out _⟩
theorem Compact_any(w0 w:World)(v:Value)(L:List MM)(h:OwnM w0 w v L)(hext:Ext w0 w)(hmax:L.length≤1000000) :
  Calls Crz.prog 65 #[v] w (CompPost w0 L):=by
 by_cases hlen:L.length<2
 ·exact Compact_short w0 w v L h hext hlen
 ·obtain⟨A,c,rfl,hown⟩:=h
  obtain⟨g,rfl,hg,hm⟩:=own_mrow hown (fun e=>by subst e;simp at hlen)
  obtain⟨cur,h1,h2,h3,h4,h5⟩:=hm
  exact Compact_long w0 w g c L ⟨cur,h1,h2,h3,h4,h5⟩ hg hext (by omega) hmax h4 (by unfold maxLen at h5;omega)
def keyC(cs:List Int):Nat→Int
 | 0=>0
 | k+1=>if cs.getD k 0=0 then keyC cs k else IntKind.u64.wrap (keyC cs k+mixM (16 * (k:Int)+cs.getD k 0))
def keyH(base:Int)(hd:List Int)(p:Int):Nat→Int
 | 0=>base
 | k+1=>IntKind.u64.wrap (keyH base hd p k+IntKind.u64.wrap (mixM (2000+8 * p+(k:Int)) * hd.getD k 0))
def keyB(P:PosM):Int:=keyH (keyH (keyC P.cells P.cells.length) P.hand0 0 P.hand0.length) P.hand1 1 P.hand1.length
def keyM(P:PosM):Int:=if P.turn=1 then IntKind.u64.wrap (keyB P+mixM 3000) else keyB P
def keyP(P:PosM)(k:Nat):Int:=if k=0 then keyC P.cells P.cells.length else if k=1 then keyH (keyC P.cells P.cells.length) P.hand0 0 P.hand0.length else keyB P
set_option maxHeartbeats 4000000 in
set_option maxRecDepth 100000 in
theorem Of_any(R:RM)(P:PosM)(u:Value)(w:World)(hP:PA w u P)(hV:Valid R)(hS:Sound R P) :
  Calls Crz.prog 142 #[u] w fun e w'=>e=.returned (.int .u64 (keyM P))∧Ext w w':=by
 have har:=area_bd _ _ hV.side
 have ha:=hS.area
 have hp6:=hV.pieces6
 have hl0:=hS.len0
 have hl1:=hS.len1
 have h64:P.cells.length≤64:=by omega
 have h60:P.hand0.length≤6:=by omega
 have h61:P.hand1.length≤6:=by omega
 have HCB:=hide (fun (c:Int) (h:c∈P.cells)=>(⟨(hS.cells c h).1,by have:=(hS.cells c h).2;omega⟩:0≤c∧c≤12))
 have HH0:=hide hS.held0
 have HH1:=hide hS.held1
 obtain⟨cA,cc,aA,ac,bA,bc,rfl,hcc,haa,hbb,-⟩:=hP
 obtain⟨x1,k1⟩:=blks1 w #[.slice cA P.cells.length cc,.slice aA P.hand0.length ac,.slice bA P.hand1.length bc,.int .i64 P.turn,.int .i64 P.quiet] 29
 have HX:=hide x1
 have HC:=hide (hcc.ext x1)
 have HA:=hide (haa.ext x1)
 have HB:=hide (hbb.ext x1)
 have ht:=hS.turn
 have HT:=hide hS.turn
 clear har ha hp6 hl0 hl1 hS hV hcc haa hbb x1 ht
 have i0:∀ w,(Instr.index 27 (.agg #[.slice aA P.hand0.length ac,.slice bA P.hand1.length bc]) (.int .i64 0)).run Crz.prog w=.ok (.slice aA P.hand0.length ac) w:=fun _=>by kernel_rfl
 have i1:∀ w,(Instr.index 27 (.agg #[.slice aA P.hand0.length ac,.slice bA P.hand1.length bc]) (.int .i64 1)).run Crz.prog w=.ok (.slice bA P.hand1.length bc) w:=fun _=>by kernel_rfl
 go_enter Crz.func142,Tryz.ntmps142
 go_wp2
 generalize w.alloc _=w2 at *
 generalize w.heap.size=B1 at *
 have f0:w2.cell? ⟨B1,0,none⟩=some (.slice cA P.cells.length cc):=k1.cell 0
 have f1:w2.cell? ⟨B1,1,none⟩=some (.slice aA P.hand0.length ac):=k1.cell 1
 have f2:w2.cell? ⟨B1,2,none⟩=some (.slice bA P.hand1.length bc):=k1.cell 2
 have f3:w2.cell? ⟨B1,3,none⟩=some (.int .i64 P.turn):=k1.cell 3
 clear k1
 go_wp2
 go_loop [3,4,5,13] (fun o _ _ i=>∃ k:Nat,k≤P.cells.length∧i=.int .i64 k∧o=.int .u64 (keyC P.cells k)) (fun _ _ _ i=>P.cells.length-(intOf i).toNat)
 case atStart=>exact⟨0,Nat.zero_le _,rfl,rfl⟩
 case round =>
  obtain⟨k,hk,rfl,rfl⟩:=hrel
  by_cases hlt:k<P.cells.length
  ·obtain⟨bC,oC,rfl,hcell⟩:=HC.out k hlt
   have hz:=HCB.out (P.cells.getD k 0) (by simp [hlt])
   have HS:=hide (show keyC P.cells (k+1)=if P.cells.getD k 0=0 then keyC P.cells k else IntKind.u64.wrap (keyC P.cells k+mixM (16 * (k:Int)+P.cells.getD k 0)) from rfl)
   generalize P.cells.getD k 0=z at *
   obtain⟨z0,z1⟩:=hz
   by_cases hz0:z=0
   ·have HN:=hide (HS.out.trans (if_pos hz0))
    subst hz0
    clear HS
    go_wp2
    go_round
    case rel=>exact⟨k+1,by omega,by go_num,by rw [HN.out]⟩
    case measure=>simp [intOf];omega
   ·have HN:=hide (HS.out.trans (if_neg hz0))
    have t0:(z != 0)=true:=by simpa using hz0
    clear HS hz0
    go_wp2_with (go_at_call 148;refine(Mix_any _ _ (by omega) (by omega)).mono ?_;rintro e w' ⟨rfl,rfl⟩)
    go_round
    case rel=>exact⟨k+1,by omega,by go_num,by rw [HN.out]⟩
    case measure=>simp [intOf];omega
  ·obtain rfl:k=P.cells.length:=by omega
   go_wp2
   go_loop [3,6,7,30] (fun o _ _ i=>∃ k:Nat,k≤2∧i=.int .i64 k∧o=.int .u64 (keyP P k)) (fun _ _ _ i=>2-(intOf i).toNat)
   case atStart=>exact⟨0,by omega,rfl,rfl⟩
   case round =>
    obtain⟨k,hk,rfl,rfl⟩:=hrel
    rcases(by omega:k=0∨k=1∨k=2) with rfl | rfl | rfl
    ·have HE:Hid (keyP P 1=keyH (keyP P 0) P.hand0 0 P.hand0.length):=hide rfl
     generalize keyP P 0=base at *
     go_wp2
     go_loop [3,8,9,36] (fun o _ _ i=>∃ j:Nat,j≤P.hand0.length∧i=.int .i64 j∧o=.int .u64 (keyH base P.hand0 0 j)) (fun _ _ _ i=>P.hand0.length-(intOf i).toNat)
     case atStart=>exact⟨0,Nat.zero_le _,rfl,rfl⟩
     case round =>
      obtain⟨j,hj,rfl,rfl⟩:=hrel
      by_cases hlt:j<P.hand0.length
      ·obtain⟨bC,oC,rfl,hcell⟩:=HA.out j hlt
       have hz:=HH0.out (P.hand0.getD j 0) (by simp [hlt])
       have HS:=hide (show keyH base P.hand0 0 (j+1)=IntKind.u64.wrap (keyH base P.hand0 0 j+IntKind.u64.wrap (mixM (2000+8 * 0+(j:Int)) * P.hand0.getD j 0)) from rfl)
       generalize P.hand0.getD j 0=z at *
       obtain⟨z0,z1⟩:=hz
       clear i0 i1
       go_wp2_with (go_at_call 148;refine(Mix_any _ _ (by omega) (by omega)).mono ?_;rintro e w' ⟨rfl,rfl⟩)
       go_round
       case rel=>exact⟨j+1,by omega,by go_num,by rw [HS.out,show (2000:Int)+8 * 0=2000 from rfl]⟩
       case measure=>simp [intOf];omega
      ·obtain rfl:j=P.hand0.length:=by omega
       clear i0 i1
       go_wp2
       go_round
       case rel=>exact⟨1,by omega,by go_num,by rw [HE.out]⟩
       case measure=>simp [intOf]
    ·have HE:Hid (keyP P 2=keyH (keyP P 1) P.hand1 1 P.hand1.length):=hide rfl
     generalize keyP P 1=base at *
     go_wp2
     go_loop [3,8,9,36] (fun o _ _ i=>∃ j:Nat,j≤P.hand1.length∧i=.int .i64 j∧o=.int .u64 (keyH base P.hand1 1 j)) (fun _ _ _ i=>P.hand1.length-(intOf i).toNat)
     case atStart=>exact⟨0,Nat.zero_le _,rfl,rfl⟩
     case round =>
      obtain⟨j,hj,rfl,rfl⟩:=hrel
      by_cases hlt:j<P.hand1.length
      ·obtain⟨bC,oC,rfl,hcell⟩:=HB.out j hlt
       have hz:=HH1.out (P.hand1.getD j 0) (by simp [hlt])
       have HS:=hide (show keyH base P.hand1 1 (j+1)=IntKind.u64.wrap (keyH base P.hand1 1 j+IntKind.u64.wrap (mixM (2000+8 * 1+(j:Int)) * P.hand1.getD j 0)) from rfl)
       generalize P.hand1.getD j 0=z at *
       obtain⟨z0,z1⟩:=hz
       clear i0 i1
       go_wp2_with (go_at_call 148;refine(Mix_any _ _ (by omega) (by omega)).mono ?_;rintro e w' ⟨rfl,rfl⟩)
       go_round
       case rel=>exact⟨j+1,by omega,by go_num,by rw [HS.out,show (2000:Int)+8 * 1=2008 from rfl]⟩
       case measure=>simp [intOf];omega
      ·obtain rfl:j=P.hand1.length:=by omega
       clear i0 i1
       go_wp2
       go_round
       case rel=>exact⟨2,by omega,by go_num,by rw [HE.out]⟩
       case measure=>simp [intOf]
    ·have HP2:Hid (keyP P 2=keyB P):=hide rfl
     rcases HT.out with ht | ht
     ·have t1:(P.turn == 1)=false:=by simp [ht]
      have HK:Hid (keyM P=keyB P):=hide (by unfold keyM;rw [if_neg (by omega)])
      clear i0 i1 ht
      go_wp2
      go_ret
      exact⟨by rw [HK.out];rfl,HX.out⟩
     ·have t1:(P.turn == 1)=true:=by simp [ht]
      have HK:Hid (keyM P=IntKind.u64.wrap (keyB P+mixM 3000)):=hide (by unfold keyM;rw [if_pos ht])
      clear i0 i1 ht
      go_wp2_with (go_at_call 148;refine(Mix_any _ _ (by omega) (by omega)).mono ?_;rintro e w' ⟨rfl,rfl⟩)
      go_ret
      exact⟨by rw [HK.out];rfl,HX.out⟩
theorem valid_three:Valid threeR:=valid_of (by decide +kernel)
theorem sound_near:Sound threeR nearP:=sound_of (by decide +kernel)
theorem fine_ext{f:FuncId}{args:Array Value}{w:World}{v:Value}(h:Calls Crz.prog f args w fun e w'=>e=.returned v∧w=w'):Calls Crz.prog f args w fun e w'=>e=.returned v∧Ext w w' :=
 h.mono fun _ _ ⟨he,hw⟩=>⟨he,by rw [← hw];exact Below.refl _ _⟩
theorem blk_ints{w:World}{g:Nat}{t:TypeId}{zs:List Int}(h:Blk w g t (zs.map (Value.int .i64)).toArray):IntsAt w (some ⟨g,0,none⟩) zs:=fun i hi=>⟨g,0,rfl,by
 rw [Nat.zero_add,h.cell]
 simp [hi]⟩
end Go.Proofs.YtdoibgmmijhlfaaGreat
