/- CloneInts Append Concat IRow PlaceCopy Near EqInts Same SameAny PosI -/
import Derived.Test.YtdoibgmmijhlfaaGreatC00
import Derived.Lib.AppendZeros
import Derived.Deep.RegionWith
import Derived.Deep.DrawnRows
import Derived.Laws.ResultCell
namespace Go.Proofs.YtdoibgmmijhlfaaGreat
open Go.ChangeShapes Go.WideShapes Go.ChangeAt Go.RowKit
set_option linter.unusedVariables false
theorem intInfo:(Crz.prog.info? 3).map (fun i=>(i.zero,i.size,i.bytes))=some (some (.int .i64 0),1,8):=by kernel_rfl
def OwnInts(w:World)(zs:List Int)(e:Ending)(w':World):Prop:=∃ A c,e=.returned (.slice A zs.length c)∧w'.ownsRow w.heap.size 3 1 (.slice A zs.length c) zs.length (zs.map (Value.int .i64))∧Ext w w'
theorem cloneInts_any(A:Option Addr)(n c:Nat)(zs:List Int)(w:World)(hn:zs.length=n)(hm:n≤2 ^ 40)(hA:A=none→n=0)(hz:IntsAt w A zs) :
  Calls Crz.prog 89 #[.slice A n c] w (OwnInts w zs):=by
 subst hn
 have hnil:=fun W=>Lib.run_eql_slice_nil (P:=Crz.prog) W 23 3 A zs.length c 0 0 Crz.underlying23
 obtain⟨i0,hi,hz0,hz1,hz2⟩:=info_parts intInfo
 cases A with
 | none =>
  have h0:zs=[]:=List.eq_nil_of_length_eq_zero (hA rfl)
  subst h0
  simp only [List.length_nil] at hnil ⊢
  go_enter Crz.func89,Tryz.ntmps89
  go_wp2
  go_ret
  exact⟨none,0,rfl,World.ownsRow_nil _ _ _ _,Below.refl _ _⟩
 | some ad =>
  have hcs:=ints_cells hz
  clear hA
  have hown:=World.ownsRow_made w #[] 0 (base:=w.heap.size) (e:=3) (size:=1) (Nat.le_refl _) (by simp [maxLen]) rfl
  go_enter Crz.func89,Tryz.ntmps89
  go_wp2_with (at_builtin;refine wpList_append_cells _ rfl (.tmp 5) (.tmp 6) 23 rfl w.heap.size 3 i0 (.int .i64 0) 1 8 Crz.underlying23 hi hz0 hz1 hz2 rfl (by decide) _ 0 [] rfl hown (some ad) zs.length c (zs.map (Value.int .i64)) rfl (by simp) (hcs.ext (qA (Below.refl _ _) _)) (one_ints zs) (by simp only [maxLen];omega) (by omega) (by simp) (by simp) ?_;intro v' w1 hown1 hgrow)
  obtain⟨A',c',rfl,_,_⟩:=own_shape hown1
  go_ret
  simp only [Nat.zero_add,List.nil_append] at hown1
  refine⟨A',c',by simp,hown1,ext_grown (qA (Below.refl _ _) _) hgrow (own_row hown)⟩
theorem moveInfo:(Crz.prog.info? 31).map (fun i=>(i.zero,i.size,i.bytes))=some (some (.agg #[.int .i64 0,.int .i64 0,.int .i64 0]),3,24):=by kernel_rfl
def OwnI(w0 w:World)(v:Value)(xs:List Int):Prop:=∃ A c,v=.slice A xs.length c∧w.ownsRow w0.heap.size 3 1 (.slice A xs.length c) xs.length (xs.map (Value.int .i64))
def OwnM(w0 w:World)(v:Value)(ms:List MM):Prop:=∃ A c,v=.slice A ms.length c∧w.ownsRow w0.heap.size 31 3 (.slice A ms.length c) ms.length (ms.flatMap MM.vals)
theorem OwnI.nil(w0 w:World):OwnI w0 w (.slice none 0 0) []:=⟨none,0,rfl,World.ownsRow_nil _ _ _ _⟩
theorem OwnM.nil(w0 w:World):OwnM w0 w (.slice none 0 0) []:=⟨none,0,rfl,World.ownsRow_nil _ _ _ _⟩
theorem OwnI.ext{w0 w w':World}{v:Value}{xs:List Int}(h:OwnI w0 w v xs)(he:Ext w w'):OwnI w0 w' v xs:=by
 obtain⟨A,c,e,h⟩:=h
 exact⟨A,c,e,own_ext h he⟩
theorem OwnM.ext{w0 w w':World}{v:Value}{xs:List MM}(h:OwnM w0 w v xs)(he:Ext w w'):OwnM w0 w' v xs:=by
 obtain⟨A,c,e,h⟩:=h
 exact⟨A,c,e,own_ext h he⟩
theorem len_vals(ms:List MM):(ms.flatMap MM.vals).length=ms.length * 3:=by
 induction ms with
 | nil=>rfl
 | cons a l ih=>rw [List.flatMap_cons,List.length_append,ih,List.length_cons,Nat.add_mul];simp [MM.vals];omega
theorem wp_append_int{ops:Array Oper}{rest:List Oper}{o:Oper}{a:Act}{Q:Exit→Act→World→Prop}(s x:Operand)(hgd:o.guard=none)
  (ho:o.op=.call { callee:=.builtin .append,args:=#[s,x],argTypes:=#[23,23] }) (w0 w:World) (v:Value) (xs:List Int) (z:Int) (hs:a.eval s=v) (hown:OwnI w0 w v xs) (hx:a.eval x=.slice (some ⟨w.heap.size,0,none⟩) 1 1)
  (hext:Ext w0 w) (hlen:xs.length≤1000000) (h:∀ v' w',OwnI w0 w' v' (xs++[z])→Ext w0 w'→w.grownBy w' v.ownBlock→wpList Crz.prog ops Q rest (a.put o.dst v') w') :
  wpList Crz.prog ops Q (o :: rest) a (w.alloc (.cells #[.int .i64 z] 3)):=by
 obtain⟨A,c,rfl,hown⟩:=hown
 obtain⟨i0,hi,hz0,hz1,hz2⟩:=info_parts intInfo
 have hsz:=hext.size
 refine wpList_append_cells (P:=Crz.prog) _ hgd s x 23 ho w0.heap.size 3 i0 (.int .i64 0) 1 8 Crz.underlying23 hi hz0 hz1 hz2 rfl (by decide) _ xs.length (xs.map (Value.int .i64)) hs (own_ext hown (qA (Below.refl _ _) _)) _ 1 1 [.int .i64 z] hx rfl (cellsAt_new w 3 [.int .i64 z]) (by simp [Value.oneCell']) (by simp only [maxLen];omega) (by omega) (by simp;omega) (by simp) ?_
 intro v' w' hown' hgrow
 obtain⟨A',c',rfl,_,_⟩:=own_shape hown'
 refine h _ w' ⟨A',c',by simp,by simpa using hown'⟩ (ext_grown (qA hext _) hgrow (own_row hown)) ?_
 exact⟨hgrow.os,hgrow.tape,hgrow.output,by have:=hgrow.size;simp at this;omega,fun b hb hn=>by
  rw [hgrow.block b (by simp;omega) hn]
  exact Below.heap_alloc w _ b hb⟩
theorem wp_append_move{ops:Array Oper}{rest:List Oper}{o:Oper}{a:Act}{Q:Exit→Act→World→Prop}(s x:Operand)(hgd:o.guard=none)
  (ho:o.op=.call { callee:=.builtin .append,args:=#[s,x],argTypes:=#[69,69] }) (w0 w:World) (v:Value) (xs:List MM) (m:MM) (hs:a.eval s=v) (hown:OwnM w0 w v xs) (hx:a.eval x=.slice (some ⟨w.heap.size,0,none⟩) 1 1)
  (hext:Ext w0 w) (hlen:xs.length≤1000000) (h:∀ v' w',OwnM w0 w' v' (xs++[m])→Ext w0 w'→w.grownBy w' v.ownBlock→wpList Crz.prog ops Q rest (a.put o.dst v') w') :
  wpList Crz.prog ops Q (o :: rest) a (w.alloc (.cells #[.int .i64 m.src,.int .i64 m.dst,.int .i64 m.piece] 31)):=by
 obtain⟨A,c,rfl,hown⟩:=hown
 obtain⟨i0,hi,hz0,hz1,hz2⟩:=info_parts moveInfo
 have hsz:=hext.size
 refine wpList_append_cells (P:=Crz.prog) _ hgd s x 69 ho w0.heap.size 31 i0 (.agg #[.int .i64 0,.int .i64 0,.int .i64 0]) 3 24 Crz.underlying69 hi hz0 hz1 hz2 rfl (by decide) _ xs.length (xs.flatMap MM.vals) hs (own_ext hown (qA (Below.refl _ _) _)) _ 1 1 m.vals hx rfl (cellsAt_new w 31 m.vals) (by simp [MM.vals,Value.oneCell']) (by simp only [maxLen];omega) (by omega) (by simp;omega) (by simp) ?_
 intro v' w' hown' hgrow
 obtain⟨A',c',rfl,_,_⟩:=own_shape hown'
 refine h _ w' ⟨A',c',by simp,by simpa using hown'⟩ (ext_grown (qA hext _) hgrow (own_row hown)) ?_
 exact⟨hgrow.os,hgrow.tape,hgrow.output,by have:=hgrow.size;simp at this;omega,fun b hb hn=>by
  rw [hgrow.block b (by simp;omega) hn]
  exact Below.heap_alloc w _ b hb⟩
theorem OwnI.ints{w0 w:World}{v:Value}{xs:List Int}(h:OwnI w0 w v xs):∃ A c,v=.slice A xs.length c∧IntsAt w A xs:=by
 obtain⟨A,c,e,h⟩:=h
 exact⟨A,c,e,cells_ints (own_cells h).1⟩
theorem intInfoC:(Crz.prog.info? 3).map (fun i=>(i.zero,i.size,i.bytes))=some (some (.int .i64 0),1,8):=by kernel_rfl
def OwnNone(w:World)(e:Ending)(w':World):Prop:=∃ A c,e=.returned (.slice A 0 c)∧w'.ownsRow w.heap.size 3 1 (.slice A 0 c) 0 []∧Ext w w'
set_option maxRecDepth 100000 in
theorem Grow_nil(n:Nat)(w:World)(hn:n≤100000) :
  Calls Crz.prog 140 #[.slice none 0 0,.int .i64 (n:Int)] w (OwnNone w):=by
 obtain⟨i0,hi,hz0,hz1,hz2⟩:=info_parts intInfoC
 by_cases h0:n=0
 ·subst h0
  go_enter Crz.func140,Tryz.ntmps140
  go_wp2
  go_ret
  exact⟨none,0,rfl,World.ownsRow_nil _ _ _ _,Below.refl _ _⟩
 ·have hap:=fun W=>Lib.run_append_nil_zeros (P:=Crz.prog) W 23 3 23 3 i0 (.int .i64 0) .i64 .i64 Crz.underlying23 Crz.underlying3 hi hz0 n (by omega) (by omega) (by omega) (by rw [hz2];omega)
  have hgc:=grownCap_ge w n 0 3
  have hgm:=grownCap_le_maxLen w n 0 3 (by simp only [maxLen];omega)
  have hpos:0<n:=by omega
  have HAP:=hide hap
  have HGC:=hide hgc
  have HGM:=hide hgm
  clear hap h0 hgc hgm
  go_enter Crz.func140,Tryz.ntmps140
  go_wp2_with (at_builtin;refine Lib.wpList_append_run _ rfl (.tmp 20) (.tmp 21) 23 3 rfl (.slice none 0 0) (.int .i64 (n:Int)) rfl rfl _ _ (HAP.out _) ?_)
  go_ret
  refine⟨_,_,rfl,?_,?_⟩
  ·refine World.ownsRow_made w.drew _ _ (Nat.le_refl _) HGM.out ?_
   have:=HGC.out
   simp [Builtin.zeroCells]
   omega
  ·exact Below.alloc (Below.drew (Below.refl _ _)) (Nat.le_refl _) _
theorem ints_none{w:World}{A:Option Addr}{zs:List Int}(h:IntsAt w A zs)(e:A=none):zs.length=0:=by
 subst e
 by_cases h0:zs.length=0
 ·exact h0
 ·obtain⟨_,_,e,_⟩:=h 0 (by omega)
  cases e
def sz2(n m:Nat)(k:Nat):Nat:=if k=0 then 0 else if k=1 then n else n+m
def el2(xs ys:List Int)(k:Nat):List Int:=if k=0 then [] else if k=1 then xs else xs++ys
set_option maxHeartbeats 1000000 in
set_option maxRecDepth 100000 in
theorem Concat_two(L:Addr)(A B:Option Addr)(n m c d e:Nat)(xs ys:List Int)(w:World)(hx:xs.length=n)(hy:ys.length=m)(hn:n≤1000)(hm:m≤1000)(hL:L.spot=none)
  (c0:w.cell? L=some (.slice A n c)) (c1:w.cell? ⟨L.block,L.off+1,none⟩=some (.slice B m d)) (hA:IntsAt w A xs) (hB:IntsAt w B ys) :
  Calls Crz.prog 118 #[.slice (some L) 2 e] w fun e w'=>∃ A' c',e=.returned (.slice A' (n+m) c')∧IntsAt w' A' (xs++ys)∧Ext w w':=by
 obtain⟨i0,hi,hz0,hz1,hz2⟩:=info_parts intInfoC
 obtain⟨b,o,s⟩:=L
 obtain rfl:s=none:=hL
 have HX:=hide hx
 have HY:=hide hy
 have hA0:=hide (ints_none hA)
 have hB0:=hide (ints_none hB)
 clear hx hy
 have hc0:w.cell? ⟨b,o,none⟩=some (.slice A n c):=c0
 have hc1:w.cell? ⟨b,o+1,none⟩=some (.slice B m d):=c1
 clear c0 c1
 go_enter Crz.func118,Tryz.ntmps118
 go_wp2
 go_loop [3,5,11] (fun s _ i=>∃ k:Nat,k≤2∧i=.int .i64 k∧s=.int .i64 (sz2 n m k)) (fun _ _ i=>2-(intOf i).toNat)
 case atStart=>exact⟨0,by omega,rfl,rfl⟩
 case round =>
  obtain⟨k,hk,rfl,rfl⟩:=hrel
  rcases(by omega:k=0∨k=1∨k=2) with rfl | rfl | rfl
  ·rw [show sz2 n m 0=0 from rfl]
   go_wp2
   go_round
   case rel=>exact⟨1,by omega,by go_num,by simp [sz2]⟩
   case measure=>simp [intOf]
  ·rw [show sz2 n m 1=n from rfl]
   go_wp2
   go_round
   case rel=>exact⟨2,by omega,by go_num,by simp [sz2]⟩
   case measure=>simp [intOf]
  ·rw [show sz2 n m 2=n+m from rfl]
   have HG:=hide (Grow_nil (n+m) w (by omega))
   go_wp2_with fail
   refine HG.out.mono ?_
   rintro e w2 ⟨A2,c2,rfl,hown,x2⟩
   have HC0:=hide hc0
   have hc0':=Ext.cell x2 hc0
   have hc1':=Ext.cell x2 hc1
   clear hc0 hc1 HG
   go_wp2_with fail
   have hbw0:b<w.heap.size:=lt_of_cell HC0.out
   have HBW:=hide hbw0
   clear hbw0
   go_loopw [6,8,27] (fun v _ i wr=>∃ (k:Nat) (Av:Option Addr) (cv:Nat),k≤2∧i=.int .i64 k∧v=.slice Av (sz2 n m k) cv∧wr.ownsRow w.heap.size 3 1 (.slice Av (sz2 n m k) cv) (sz2 n m k) ((el2 xs ys k).map (Value.int .i64))∧Ext w wr∧wr.cell? ⟨b,o,none⟩=some (.slice A n c)∧wr.cell? ⟨b,o+1,none⟩=some (.slice B m d)) (fun _ _ i _=>2-(intOf i).toNat)
   case atStart=>exact⟨0,A2,c2,by omega,rfl,rfl,hown,x2,hc0',hc1'⟩
   case round =>
    obtain⟨k,Av,cv,hk,rfl,rfl,hown,hext,q0,q1⟩:=hrel
    clear hc0' hc1' x2
    have hsz:=hext.size
    rcases(by omega:k=0∨k=1∨k=2) with rfl | rfl | rfl
    ·have hown':wr.ownsRow w.heap.size 3 1 (.slice Av 0 cv) 0 []:=hown
     have HO:=hide hown'
     clear hown hown'
     rw [show sz2 n m 0=0 from rfl]
     go_wp2_with (at_builtin;go_must (refine wpList_append_cells _ rfl (.tmp 31) (.tmp 32) 23 rfl w.heap.size 3 i0 (.int .i64 0) 1 8 Crz.underlying23 hi hz0 hz1 hz2 rfl (by decide) (.slice Av 0 cv) 0 [] rfl HO.out A n c (xs.map (Value.int .i64)) rfl ?len (ints_cells (hA.ext hext)) (one_ints xs) (by simp only [maxLen];omega) (by omega) hsz ?nil ?_))
     case len=>simp [HX.out]
     case nil=>intro h;rw [← HX.out];exact hA0.out h
     intro v4 w4 hown4 hgrow
     have hx4:Ext w w4:=ext_grown hext hgrow (own_row HO.out)
     have hb:b<wr.heap.size:=lt_of_cell q0
     have hbw:some b≠(Value.slice Av 0 cv).ownBlock:=fun h=>by have:=(HO.out.lt b h.symm).1;have:=HBW.out;omega
     have q0':=(World.cell?_of_block (a:=⟨b,o,none⟩) (hgrow.block b hb hbw)).trans q0
     have q1':=(World.cell?_of_block (a:=⟨b,o+1,none⟩) (hgrow.block b hb hbw)).trans q1
     obtain⟨A4,c4,rfl,_,_⟩:=own_shape hown4
     have HO4:=hide hown4
     have HQ0:=hide q0'
     have HQ1:=hide q1'
     clear hown4 q0' q1' hgrow hbw HO
     go_wp2
     go_roundw
     case rel =>
      refine⟨1,A4,c4,by omega,rfl,?_,?_,hx4,HQ0.out,HQ1.out⟩
      ·simp [sz2]
      ·simpa [sz2,el2] using HO4.out
     case measure=>simp [intOf]
    ·have hown':wr.ownsRow w.heap.size 3 1 (.slice Av n cv) n (xs.map (Value.int .i64)):=hown
     have HO:=hide hown'
     clear hown hown'
     rw [show sz2 n m 1=n from rfl]
     go_wp2_with (at_builtin;go_must (refine wpList_append_cells _ rfl (.tmp 31) (.tmp 32) 23 rfl w.heap.size 3 i0 (.int .i64 0) 1 8 Crz.underlying23 hi hz0 hz1 hz2 rfl (by decide) (.slice Av n cv) n (xs.map (Value.int .i64)) rfl HO.out B m d (ys.map (Value.int .i64)) rfl ?len (ints_cells (hB.ext hext)) (one_ints ys) (by simp only [maxLen];omega) (by omega) hsz ?nil ?_))
     case len=>simp [HY.out]
     case nil=>intro h;rw [← HY.out];exact hB0.out h
     intro v4 w4 hown4 hgrow
     have hx4:Ext w w4:=ext_grown hext hgrow (own_row HO.out)
     have hb:b<wr.heap.size:=lt_of_cell q0
     have hbw:some b≠(Value.slice Av n cv).ownBlock:=fun h=>by have:=(HO.out.lt b h.symm).1;have:=HBW.out;omega
     have q0':=(World.cell?_of_block (a:=⟨b,o,none⟩) (hgrow.block b hb hbw)).trans q0
     have q1':=(World.cell?_of_block (a:=⟨b,o+1,none⟩) (hgrow.block b hb hbw)).trans q1
     obtain⟨A4,c4,rfl,_,_⟩:=own_shape hown4
     have HO4:=hide hown4
     have HQ0:=hide q0'
     have HQ1:=hide q1'
     clear hown4 q0' q1' hgrow hbw HO
     go_wp2
     go_roundw
     case rel =>
      refine⟨2,A4,c4,by omega,rfl,?_,?_,hx4,HQ0.out,HQ1.out⟩
      ·simp [sz2]
      ·simpa [sz2,el2] using HO4.out
     case measure=>simp [intOf]
    ·have HO4:Hid (wr.ownsRow w.heap.size 3 1 (.slice Av (n+m) cv) (n+m) ((xs++ys).map (Value.int .i64))):=hide hown
     clear hown
     rw [show sz2 n m 2=n+m from rfl]
     go_wp2
     go_ret
     exact⟨Av,cv,rfl,cells_ints (own_cells HO4.out).1,hext⟩
end Go.Proofs.YtdoibgmmijhlfaaGreat
namespace Go.Proofs.YtdoibgmmijhlfaaGreat
open Go.RowKit
def IRow(w:World)(g:Nat)(zs:List Int):Prop:=∃ cur:Array Value,w.heap[g]? = some (.cells cur 3 (0,0))∧cur.toList.take zs.length=zs.map (Value.int .i64)
section
variable {w w':World}{g:Nat}{zs:List Int}
theorem IRow.lt(h:IRow w g zs):g<w.heap.size:=by
 obtain⟨cur,h,_⟩:=h
 exact(Array.getElem?_eq_some_iff.1 h).1
theorem IRow.cell(h:IRow w g zs){i:Nat}(hi:i<zs.length):w.cell? ⟨g,i,none⟩=some (.int .i64 (zs.getD i 0)):=by
 obtain⟨cur,h,ht⟩:=h
 rw [cell_of_row _ _ _ cur 3 (0,0) h]
 have e:(cur.toList.take zs.length)[i]? = (zs.map (Value.int .i64))[i]?:=by rw [ht]
 rw [List.getElem?_take,if_pos hi] at e
 simp [hi] at e
 simp [hi,e]
theorem IRow.frozen(h:IRow w g zs)(i:Nat):w.frozen? ⟨g,i,none⟩=false:=by
 obtain⟨cur,h,_⟩:=h
 simp [World.frozen?,h]
theorem IRow.ints(h:IRow w g zs):IntsAt w (some ⟨g,0,none⟩) zs:=fun i hi=>⟨g,0,rfl,by rw [Nat.zero_add];exact h.cell hi⟩
theorem IRow.far(h:IRow w g zs){p:Addr}(hp:g≠p.block)(u:Value):IRow (w.setCell p u) g zs:=by
 obtain⟨cur,h,ht⟩:=h
 exact⟨cur,(Below.heap_setCell w p u g hp).trans h,ht⟩
theorem IRow.ext(h:IRow w g zs)(he:Ext w w'):IRow w' g zs:=by
 obtain⟨cur,h,ht⟩:=h
 exact⟨cur,(he.block g (Array.getElem?_eq_some_iff.1 h).1).trans h,ht⟩
theorem IRow.same(h:IRow w g zs)(he:w'.heap[g]? = w.heap[g]?):IRow w' g zs:=by
 obtain⟨cur,h,ht⟩:=h
 exact⟨cur,he.trans h,ht⟩
theorem IRow.drew(h:IRow w g zs):IRow w.drew g zs:=h
theorem IRow.alloc(h:IRow w g zs)(o:Obj):IRow (w.alloc o) g zs:=h.ext (qA (Below.refl _ _) o)
theorem IRow.set_(h:IRow w g zs)(i:Nat)(u:Int):IRow (w.setCell ⟨g,i,none⟩ (.int .i64 u)) g (zs.set i u):=by
 obtain⟨cur,h,ht⟩:=h
 refine⟨cur.setIfInBounds i (.int .i64 u),?_,?_⟩
 ·simp [World.setCell,Array.getElem?_modify,h]
 ·rw [List.length_set,List.map_set,← ht,Array.toList_setIfInBounds,List.take_set]
end
theorem own_irow{w:World}{B n c:Nat}{A:Option Addr}{zs:List Int}(h:w.ownsRow B 3 1 (.slice A n c) n (zs.map (Value.int .i64)))(hn:zs.length=n)(h1:1≤n):∃ g,A=some ⟨g,0,none⟩∧B≤g∧IRow w g zs∧n≤c:=by
 have hc:=own_cap h
 rcases h.2 with ⟨e1,e2⟩ | ⟨g,cap,cur,e1,hb,hg,_,_,_,ht⟩
 ·omega
 ·injection e1 with a b c
  subst a
  refine⟨g,rfl,hb,⟨cur,hg,?_⟩,hc⟩
  rw [← ht]
  simp [hn]
def PosOwn(w:World)(B:Nat)(v:Value)(P:PosM):Prop :=
 ∃ g0 c0 g1 c1 g2 c2,v=.agg #[.slice (some ⟨g0,0,none⟩) P.cells.length c0,.slice (some ⟨g1,0,none⟩) P.hand0.length c1,.slice (some ⟨g2,0,none⟩) P.hand1.length c2,.int .i64 P.turn,.int .i64 P.quiet] ∧
  B≤g0∧g0<g1∧g1<g2∧IRow w g0 P.cells∧IRow w g1 P.hand0∧IRow w g2 P.hand1∧P.cells.length≤c0∧P.hand0.length≤c1∧P.hand1.length≤c2
theorem PosOwn.at_{w:World}{B:Nat}{v:Value}{P:PosM}(h:PosOwn w B v P):PA w v P:=by
 obtain⟨g0,c0,g1,c1,g2,c2,e,-,-,-,r0,r1,r2,h⟩:=h
 exact⟨_,c0,_,c1,_,c2,e,r0.ints,r1.ints,r2.ints,h⟩
theorem qB{w:World}{g i:Nat}{t:TypeId}{cs cs':Array Value}{u:Value}(h:Blk w g t cs)(e:cs.setIfInBounds i u=cs'):Blk (w.setCell ⟨g,i,none⟩ u) g t cs':=by
 have:=h.set_ i u
 rwa [e] at this
end Go.Proofs.YtdoibgmmijhlfaaGreat
namespace Go.Proofs.YtdoibgmmijhlfaaGreat
open Go.ChangeShapes Go.WideShapes Go.ChangeAt Go.RowKit
set_option linter.unusedVariables false
attribute [local go_sem ↓] Go.wp_at_zero Go.wp_at_succ
set_option maxHeartbeats 1000000 in
set_option maxRecDepth 100000 in
theorem PCopy_any(P:PosM)(v:Value)(w:World)(hP:PA w v P)(h0:1≤P.cells.length)(h1:1≤P.hand0.length)(h2:1≤P.hand1.length)(b0:P.cells.length≤100000)(b1:P.hand0.length≤100000)(b2:P.hand1.length≤100000) :
  Calls Crz.prog 70 #[v] w fun e w'=>∃ v',e=.returned v'∧PosOwn w' w.heap.size v' P∧Ext w w':=by
 obtain⟨cA,cc,aA,ac,bA,bc,rfl,hcA,haA,hbA,-⟩:=hP
 have nn:∀ {A:Option Addr} {zs:List Int},IntsAt w A zs→1≤zs.length→A=none→zs.length=0:=fun hz h1 e=>by
  obtain⟨_,_,e2,_⟩:=hz 0 (by omega)
  rw [e] at e2;cases e2
 have C0:=hide (fun W (hW:Ext w W)=>cloneInts_any cA P.cells.length cc P.cells W rfl (by omega) (nn hcA h0) (hcA.ext hW))
 have C1:=hide (fun W (hW:Ext w W)=>cloneInts_any aA P.hand0.length ac P.hand0 W rfl (by omega) (nn haA h1) (haA.ext hW))
 have C2:=hide (fun W (hW:Ext w W)=>cloneInts_any bA P.hand1.length bc P.hand1 W rfl (by omega) (nn hbA h2) (hbA.ext hW))
 have H0:=hide h0
 have H1:=hide h1
 have H2:=hide h2
 clear hcA haA hbA nn h0 h1 h2 b0 b1 b2
 go_enter Crz.func70,Tryz.ntmps70
 go_wp2_with fail
 obtain⟨x1,k1,k2⟩:=blks2 w #[.slice cA P.cells.length cc,.slice aA P.hand0.length ac,.slice bA P.hand1.length bc,.int .i64 P.turn,.int .i64 P.quiet] 29 #[.slice none 0 0,.slice none 0 0,.slice none 0 0,.int .i64 0,.int .i64 0] 29
 refine(C0.out _ x1).mono ?_
 rintro e w2 ⟨A0,c0,rfl,own0,x2⟩
 obtain⟨g0,rfl,q0,r0,m0⟩:=own_irow own0 rfl H0.out
 have y2:=qT x1 x2
 have l1:=k1.ext x2
 have l2:=k2.ext x2
 have hs:w.heap.size+1+1≤g0:=by simpa using q0
 clear x1 x2 k1 k2 own0 q0 C0
 have hB:w.heap.size≤w.heap.size:=Nat.le_refl _
 generalize hB2:w.heap.size+1=B2 at *
 generalize hB1:w.heap.size=B1 at *
 have HB1:=hide hB1
 have HB2:=hide hB2
 clear hB1 hB2 hB
 have f1:=l1.cell
 have z1:=l1.frozen
 have hle:w.heap.size≤B1:=by rw [HB1.out];exact Nat.le_refl _
 have hne:B2≠B1:=by have:=HB2.out;omega
 have hg0:B2<g0:=by omega
 have hle2:w.heap.size≤B2:=by have:=HB2.out;omega
 go_wp2
 have k3:=qB l1 (i:=0) (u:=.slice (some ⟨g0,0,none⟩) P.cells.length c0) rfl
 have l3:=l2.far (p:=⟨B1,0,none⟩) hne (.slice (some ⟨g0,0,none⟩) P.cells.length c0)
 have s3:=r0.far (p:=⟨B1,0,none⟩) (by show g0≠B1;have:=HB2.out;omega) (.slice (some ⟨g0,0,none⟩) P.cells.length c0)
 have y3:=qS y2 (p:=⟨B1,0,none⟩) hle (.slice (some ⟨g0,0,none⟩) P.cells.length c0)
 clear f1 z1 l1 l2 r0 y2
 generalize w2.setCell ⟨B1,0,none⟩ (.slice (some ⟨g0,0,none⟩) P.cells.length c0)=w3 at *
 have k3d:=k3.drew
 have l3d:=l3.drew
 have s3d:=s3.drew
 have y3d:Ext w w3.drew:=Below.drew y3
 have f3:=k3d.cell
 clear k3 l3 s3 y3
 have HG:=hide hg0
 have HL:=hide hle
 have HL2:=hide hle2
 have HN:=hide hne
 clear hg0 hle hle2 hne hs
 go_region_with (first
  | (go_at_call 89;refine(C2.out _ y4).mono ?_;rintro e w5 ⟨A2,c2,rfl,own2,x5⟩;have z5:=(k4.ext x5).frozen;have f5:=(k4.ext x5).cell)
  | (go_at_call 89;refine(C1.out _ y3d).mono ?_;rintro e w4 ⟨A1,c1,rfl,own1,x4⟩;have y4:=qT y3d x4;have k4:=k3d.ext x4;have f4:=k4.cell))
 all_goals
  have y5:=qT y4 x5
  obtain⟨g1,rfl,q1,r1,m1⟩:=own_irow own1 rfl H1.out
  obtain⟨g2,rfl,q2,r2,m2⟩:=own_irow own2 rfl H2.out
  have q1':g0<g1:=Nat.lt_of_lt_of_le s3d.lt q1
  have q2':g1<g2:=Nat.lt_of_lt_of_le r1.lt q2
  have R0:=(s3d.ext x4).ext x5
  have R1:=r1.ext x5
  have K5:=k4.ext x5
  have L5:=(l3d.ext x4).ext x5
  have hn:¬ B1=B2:=fun h=>HN.out h.symm
  have zl:=L5.frozen
  have zc:=L5.cell
  clear own1 own2 q1 q2 f3 f4 x4 x5 y4 k4 r1 s3d y3d k3d l3d C1 C2
  go_wp2
  have hne1:∀ g,g0≤g→g≠B1∧g≠B2:=fun g hg=>by have:=HG.out;have:=HB2.out;omega
  have K6:=blk_set5 (((L5.far (p:=⟨B1,1,none⟩) HN.out (.slice (some ⟨g1,0,none⟩) P.hand0.length c1)).far (p:=⟨B1,2,none⟩) HN.out (.slice (some ⟨g2,0,none⟩) P.hand1.length c2))) (u0:=.slice (some ⟨g0,0,none⟩) P.cells.length c0) (u1:=.slice (some ⟨g1,0,none⟩) P.hand0.length c1) (u2:=.slice (some ⟨g2,0,none⟩) P.hand1.length c2) (u3:=.int .i64 P.turn) (u4:=.int .i64 P.quiet)
  have X6:=(qS (qS (qS (qS (qS (qS (qS y5 (p:=⟨B1,1,none⟩) HL.out (.slice (some ⟨g1,0,none⟩) P.hand0.length c1)) (p:=⟨B1,2,none⟩) HL.out (.slice (some ⟨g2,0,none⟩) P.hand1.length c2)) (p:=⟨B2,0,none⟩) HL2.out (.slice (some ⟨g0,0,none⟩) P.cells.length c0)) (p:=⟨B2,1,none⟩) HL2.out (.slice (some ⟨g1,0,none⟩) P.hand0.length c1)) (p:=⟨B2,2,none⟩) HL2.out (.slice (some ⟨g2,0,none⟩) P.hand1.length c2)) (p:=⟨B2,3,none⟩) HL2.out (.int .i64 P.turn)) (p:=⟨B2,4,none⟩) HL2.out (.int .i64 P.quiet))
  have E0:=(IRow.far (IRow.far (IRow.far (IRow.far (IRow.far (IRow.far (IRow.far R0 (p:=⟨B1,1,none⟩) (hne1 g0 (by omega)).1 (.slice (some ⟨g1,0,none⟩) P.hand0.length c1)) (p:=⟨B1,2,none⟩) (hne1 g0 (by omega)).1 (.slice (some ⟨g2,0,none⟩) P.hand1.length c2)) (p:=⟨B2,0,none⟩) (hne1 g0 (by omega)).2 (.slice (some ⟨g0,0,none⟩) P.cells.length c0)) (p:=⟨B2,1,none⟩) (hne1 g0 (by omega)).2 (.slice (some ⟨g1,0,none⟩) P.hand0.length c1)) (p:=⟨B2,2,none⟩) (hne1 g0 (by omega)).2 (.slice (some ⟨g2,0,none⟩) P.hand1.length c2)) (p:=⟨B2,3,none⟩) (hne1 g0 (by omega)).2 (.int .i64 P.turn)) (p:=⟨B2,4,none⟩) (hne1 g0 (by omega)).2 (.int .i64 P.quiet))
  have E1:=(IRow.far (IRow.far (IRow.far (IRow.far (IRow.far (IRow.far (IRow.far R1 (p:=⟨B1,1,none⟩) (hne1 g1 (by omega)).1 (.slice (some ⟨g1,0,none⟩) P.hand0.length c1)) (p:=⟨B1,2,none⟩) (hne1 g1 (by omega)).1 (.slice (some ⟨g2,0,none⟩) P.hand1.length c2)) (p:=⟨B2,0,none⟩) (hne1 g1 (by omega)).2 (.slice (some ⟨g0,0,none⟩) P.cells.length c0)) (p:=⟨B2,1,none⟩) (hne1 g1 (by omega)).2 (.slice (some ⟨g1,0,none⟩) P.hand0.length c1)) (p:=⟨B2,2,none⟩) (hne1 g1 (by omega)).2 (.slice (some ⟨g2,0,none⟩) P.hand1.length c2)) (p:=⟨B2,3,none⟩) (hne1 g1 (by omega)).2 (.int .i64 P.turn)) (p:=⟨B2,4,none⟩) (hne1 g1 (by omega)).2 (.int .i64 P.quiet))
  have E2:=(IRow.far (IRow.far (IRow.far (IRow.far (IRow.far (IRow.far (IRow.far r2 (p:=⟨B1,1,none⟩) (hne1 g2 (by omega)).1 (.slice (some ⟨g1,0,none⟩) P.hand0.length c1)) (p:=⟨B1,2,none⟩) (hne1 g2 (by omega)).1 (.slice (some ⟨g2,0,none⟩) P.hand1.length c2)) (p:=⟨B2,0,none⟩) (hne1 g2 (by omega)).2 (.slice (some ⟨g0,0,none⟩) P.cells.length c0)) (p:=⟨B2,1,none⟩) (hne1 g2 (by omega)).2 (.slice (some ⟨g1,0,none⟩) P.hand0.length c1)) (p:=⟨B2,2,none⟩) (hne1 g2 (by omega)).2 (.slice (some ⟨g2,0,none⟩) P.hand1.length c2)) (p:=⟨B2,3,none⟩) (hne1 g2 (by omega)).2 (.int .i64 P.turn)) (p:=⟨B2,4,none⟩) (hne1 g2 (by omega)).2 (.int .i64 P.quiet))
  clear K5 R0 R1 r2 y5 zl zc hne1 z5 f5
  generalize (((((((w5.setCell ⟨B1,1,none⟩ (.slice (some ⟨g1,0,none⟩) P.hand0.length c1)).setCell ⟨B1,2,none⟩ (.slice (some ⟨g2,0,none⟩) P.hand1.length c2)).setCell ⟨B2,0,none⟩ (.slice (some ⟨g0,0,none⟩) P.cells.length c0)).setCell ⟨B2,1,none⟩ (.slice (some ⟨g1,0,none⟩) P.hand0.length c1)).setCell ⟨B2,2,none⟩ (.slice (some ⟨g2,0,none⟩) P.hand1.length c2)).setCell ⟨B2,3,none⟩ (.int .i64 P.turn)).setCell ⟨B2,4,none⟩ (.int .i64 P.quiet))=Wf at *
  have rr0:Wf.cell? ⟨B2,0,none⟩=some (.slice (some ⟨g0,0,none⟩) P.cells.length c0):=K6.cell 0
  have rr1:Wf.cell? ⟨B2,1,none⟩=some (.slice (some ⟨g1,0,none⟩) P.hand0.length c1):=K6.cell 1
  have rr2:Wf.cell? ⟨B2,2,none⟩=some (.slice (some ⟨g2,0,none⟩) P.hand1.length c2):=K6.cell 2
  have rr3:Wf.cell? ⟨B2,3,none⟩=some (.int .i64 P.turn):=K6.cell 3
  have rr4:Wf.cell? ⟨B2,4,none⟩=some (.int .i64 P.quiet):=K6.cell 4
  refine bodyPost_ret (v:=.agg #[.slice (some ⟨g0,0,none⟩) P.cells.length c0,.slice (some ⟨g1,0,none⟩) P.hand0.length c1,.slice (some ⟨g2,0,none⟩) P.hand1.length c2,.int .i64 P.turn,.int .i64 P.quiet]) ?_ rfl ?_
  ·simp [results,Tryz.results70,go_sem,rr0,rr1,rr2,rr3,rr4]
  ·exact⟨_,rfl,⟨g0,c0,g1,c1,g2,c2,rfl,by have:=HG.out;have:=HL2.out;omega,q1',q2',E0,E1,E2,m0,m1,m2⟩,X6⟩
end Go.Proofs.YtdoibgmmijhlfaaGreat
namespace Go.Proofs.YtdoibgmmijhlfaaGreat
open Go.ChangeShapes Go.WideShapes Go.ChangeAt Go.RowKit
set_option linter.unusedVariables false
theorem blks4(w:World)(c1:Array Value)(t1:TypeId)(c2:Array Value)(t2:TypeId)(c3:Array Value)(t3:TypeId)(c4:Array Value)(t4:TypeId) :
  Ext w ((((w.alloc (.cells c1 t1)).alloc (.cells c2 t2)).alloc (.cells c3 t3)).alloc (.cells c4 t4))∧Blk ((((w.alloc (.cells c1 t1)).alloc (.cells c2 t2)).alloc (.cells c3 t3)).alloc (.cells c4 t4)) w.heap.size t1 c1 ∧
   Blk ((((w.alloc (.cells c1 t1)).alloc (.cells c2 t2)).alloc (.cells c3 t3)).alloc (.cells c4 t4)) (w.heap.size+1) t2 c2∧Blk ((((w.alloc (.cells c1 t1)).alloc (.cells c2 t2)).alloc (.cells c3 t3)).alloc (.cells c4 t4)) (w.heap.size+1+1) t3 c3 ∧
   Blk ((((w.alloc (.cells c1 t1)).alloc (.cells c2 t2)).alloc (.cells c3 t3)).alloc (.cells c4 t4)) (w.heap.size+1+1+1) t4 c4:=by
 obtain⟨h1,h2,h3,h4⟩:=blks3 w c1 t1 c2 t2 c3 t3
 have h:=Blk.new (((w.alloc (.cells c1 t1)).alloc (.cells c2 t2)).alloc (.cells c3 t3)) t4 c4
 rw [show (((w.alloc (.cells c1 t1)).alloc (.cells c2 t2)).alloc (.cells c3 t3)).heap.size=w.heap.size+1+1+1 from by simp] at h
 exact⟨qA h1 _,h2.alloc _,h3.alloc _,h4.alloc _,h⟩
theorem blk_irow{w:World}{g:Nat}{zs:List Int}(h:Blk w g 3 (zs.map (Value.int .i64)).toArray):IRow w g zs:=⟨_,h,List.take_of_length_le (by simp)⟩
def nearP:PosM:={ cells:=[1,1,0,2,2,0,0,0,0],hand0:=[3],hand1:=[3],turn:=0,quiet:=0 }
theorem EqInts_len(A B:Option Addr)(n m c d:Nat)(w:World)(h:n≠m)(hn:n≤9223372036854775807)(hm:m≤9223372036854775807) :
  Calls Crz.prog 18 #[.slice A n c,.slice B m d] w fun e w'=>e=.returned (.bool false)∧∃ q,w'=w.drewN q:=by
 have h':¬ (n:Int)=(m:Int):=by omega
 go_enter Crz.func18,Tryz.ntmps18
 go_wp2
 go_ret
 exact⟨rfl,0,rfl⟩
theorem EqInts_no(A B:Option Addr)(n c d j:Nat)(xs ys:List Int)(w:World)(hx:xs.length=n)(hy:ys.length=n)(hm:n≤9223372036854775807)
  (hA:IntsAt w A xs) (hB:IntsAt w B ys) (hj:j<n) (hbad:xs.getD j 0≠ys.getD j 0) :
  Calls Crz.prog 18 #[.slice A n c,.slice B n d] w fun e w'=>e=.returned (.bool false)∧∃ q,w'=w.drewN q:=by
 have HB:=hide hbad
 clear hbad
 have HX:=hide hx
 have HY:=hide hy
 have hx':n≤xs.length:=by omega
 have hy':n≤ys.length:=by omega
 clear hx hy
 go_enter Crz.func18,Tryz.ntmps18
 go_wp2
 go_loopw [13] (fun i wr=>∃ k q:Nat,k≤j∧i=.int .i64 k∧wr=w.drewN q) (fun i _=>n-(intOf i).toNat)
 case atStart=>exact⟨0,0,Nat.zero_le _,rfl,rfl⟩
 case round =>
  obtain⟨k,q,hk,rfl,rfl⟩:=hrel
  have hlt:k<n:=by omega
  obtain⟨b,o,rfl,hc⟩:=hA k (by omega)
  obtain⟨b',o',rfl,hc'⟩:=hB k (by omega)
  clear hA hB
  by_cases h0:xs.getD k 0=ys.getD k 0
  ·have hkj:k<j:=by
    rcases Nat.lt_or_ge k j with hlt | hge
    ·exact hlt
    ·obtain rfl:k=j:=by omega
     exact absurd h0 HB.out
   rw [← h0] at hc'
   clear h0 HB
   generalize xs.getD k 0=z at *
   go_wp2
   go_quiet (fail)
   go_wp2
   go_roundw
   case rel=>exact⟨k+1,_,by omega,by go_num,rfl⟩
   case measure=>simp [intOf];omega
  ·have h0':(xs.getD k 0 != ys.getD k 0)=true:=by simpa using h0
   clear h0 HB
   generalize xs.getD k 0=z at *
   generalize ys.getD k 0=z' at *
   go_wp2
   go_quiet (fail)
   go_wp2
   go_ret
   exact⟨rfl,_,World.drewN_drewN _ _ _⟩
theorem EqInts_yes(A B:Option Addr)(n c d:Nat)(xs:List Int)(w:World)(hx:xs.length=n)(hm:n≤9223372036854775807)
  (hA:IntsAt w A xs) (hB:IntsAt w B xs) :
  Calls Crz.prog 18 #[.slice A n c,.slice B n d] w fun e w'=>e=.returned (.bool true)∧∃ q,w'=w.drewN q:=by
 have HX:=hide hx
 have hx':n≤xs.length:=by omega
 clear hx
 go_enter Crz.func18,Tryz.ntmps18
 go_wp2
 go_loopw [13] (fun i wr=>∃ k q:Nat,k≤n∧i=.int .i64 k∧wr=w.drewN q) (fun i _=>n-(intOf i).toNat)
 case atStart=>exact⟨0,0,Nat.zero_le _,rfl,rfl⟩
 case round =>
  obtain⟨k,q,hk,rfl,rfl⟩:=hrel
  by_cases hlt:k<n
  ·obtain⟨b,o,rfl,hc⟩:=hA k (by omega)
   obtain⟨b',o',rfl,hc'⟩:=hB k (by omega)
   clear hA hB
   generalize xs.getD k 0=z at *
   go_wp2
   go_quiet (fail)
   go_wp2
   go_roundw
   case rel=>exact⟨k+1,_,by omega,by go_num,rfl⟩
   case measure=>simp [intOf];omega
  ·clear hA hB
   go_wp2
   go_ret
   exact⟨rfl,_,rfl⟩
theorem EqInts_any(A B:Option Addr)(n m c d:Nat)(xs ys:List Int)(w:World)(hx:xs.length=n)(hy:ys.length=m)(hn:n≤9223372036854775807)(hm:m≤9223372036854775807)
  (hA:IntsAt w A xs) (hB:IntsAt w B ys) :
  Calls Crz.prog 18 #[.slice A n c,.slice B m d] w fun e w'=>e=.returned (.bool (decide (xs=ys)))∧∃ q,w'=w.drewN q:=by
 by_cases hnm:n=m
 ·subst hnm
  by_cases hxy:xs=ys
  ·subst hxy
   rw [decide_eq_true rfl]
   exact EqInts_yes A B n c d xs w hx hn hA hB
  ·rw [decide_eq_false hxy]
   have:∃ j,j<n∧xs.getD j 0≠ys.getD j 0:=by
    by_cases hall:∀ j,j<n→xs.getD j 0=ys.getD j 0
    ·exfalso
     apply hxy
     apply List.ext_getElem (by omega)
     intro j h1 h2
     have:=hall j (by omega)
     simpa [h1,h2] using this
    ·simpa using hall
   obtain⟨j,hj,hbad⟩:=this
   exact EqInts_no A B n c d j xs ys w hx hy hn hA hB hj hbad
 ·have:xs≠ys:=fun e=>hnm (by rw [← hx,← hy,e])
  rw [decide_eq_false this]
  exact EqInts_len A B n m c d w hnm hn hm
theorem eq_ext{f:FuncId}{args:Array Value}{w:World}{v:Value}(h:Calls Crz.prog f args w fun e w'=>e=.returned v∧∃ q,w'=w.drewN q):Calls Crz.prog f args w fun e w'=>e=.returned v∧Ext w w' :=
 h.mono fun _ _ ⟨he,q,hw⟩=>⟨he,by rw [hw];exact qD (Below.refl _ _) q⟩
theorem PSame_yes(P:PosM)(v u:Value)(w:World)(hP:PA w v P)(hQ:PA w u P)(h0:P.cells.length≤100000)(h1:P.hand0.length≤100000)(h2:P.hand1.length≤100000) :
  Calls Crz.prog 49 #[v,u] w fun e w'=>e=.returned (.bool true)∧Ext w w':=by
 obtain⟨cA,cc,aA,ac,bA,bc,rfl,hcA,haA,hbA,-⟩:=hP
 obtain⟨dA,dc,eA,ec,fA,fc,rfl,hdA,heA,hfA,-⟩:=hQ
 have E0:=hide (fun W (hW:Ext w W)=>eq_ext (EqInts_yes cA dA P.cells.length cc dc P.cells W rfl (by omega) (hcA.ext hW) (hdA.ext hW)))
 have E1:=hide (fun W (hW:Ext w W)=>eq_ext (EqInts_yes aA eA P.hand0.length ac ec P.hand0 W rfl (by omega) (haA.ext hW) (heA.ext hW)))
 have E2:=hide (fun W (hW:Ext w W)=>eq_ext (EqInts_yes bA fA P.hand1.length bc fc P.hand1 W rfl (by omega) (hbA.ext hW) (hfA.ext hW)))
 clear hcA haA hbA hdA heA hfA
 go_enter Crz.func49,Tryz.ntmps49
 go_wp2_with fail
 obtain⟨x1,k1,k2⟩:=blks2 w #[.slice cA P.cells.length cc,.slice aA P.hand0.length ac,.slice bA P.hand1.length bc,.int .i64 P.turn,.int .i64 P.quiet] 29 #[.slice dA P.cells.length dc,.slice eA P.hand0.length ec,.slice fA P.hand1.length fc,.int .i64 P.turn,.int .i64 P.quiet] 29
 refine(E0.out _ x1).mono ?_
 rintro e w2 ⟨rfl,x2⟩
 have f1:=(k1.ext x2).cell
 have f2:=(k2.ext x2).cell
 go_wp2_with fail
 refine(E1.out _ (qT x1 x2)).mono ?_
 rintro e w3 ⟨rfl,x3⟩
 have g1:=((k1.ext x2).ext x3).cell
 have g2:=((k2.ext x2).ext x3).cell
 clear f1 f2
 go_wp2_with fail
 refine(E2.out _ (qT x1 (qT x2 x3))).mono ?_
 rintro e w4 ⟨rfl,x4⟩
 have i1:=(((k1.ext x2).ext x3).ext x4).cell
 have i2:=(((k2.ext x2).ext x3).ext x4).cell
 clear g1 g2
 go_wp2
 go_ret
 exact⟨rfl,qT x1 (qT x2 (qT x3 x4))⟩
def sameB(P Q:PosM):Bool:=decide (P.cells=Q.cells) && (decide (P.hand0=Q.hand0) && (decide (P.hand1=Q.hand1) && decide (P.turn=Q.turn)))
set_option maxHeartbeats 2000000 in
set_option maxRecDepth 100000 in
theorem PSame_any(P Q:PosM)(v u:Value)(w:World)(hP:PA w v P)(hQ:PA w u Q)(h0:P.cells.length≤100000)(h1:P.hand0.length≤100000)(h2:P.hand1.length≤100000)(g0:Q.cells.length≤100000)(g1:Q.hand0.length≤100000)(g2:Q.hand1.length≤100000) :
  Calls Crz.prog 49 #[v,u] w fun e w'=>e=.returned (.bool (sameB P Q))∧Ext w w':=by
 obtain⟨cA,cc,aA,ac,bA,bc,rfl,hcA,haA,hbA,-⟩:=hP
 obtain⟨dA,dc,eA,ec,fA,fc,rfl,hdA,heA,hfA,-⟩:=hQ
 have E0:=hide (fun W (hW:Ext w W)=>eq_ext (EqInts_any cA dA P.cells.length Q.cells.length cc dc P.cells Q.cells W rfl rfl (by omega) (by omega) (hcA.ext hW) (hdA.ext hW)))
 have E1:=hide (fun W (hW:Ext w W)=>eq_ext (EqInts_any aA eA P.hand0.length Q.hand0.length ac ec P.hand0 Q.hand0 W rfl rfl (by omega) (by omega) (haA.ext hW) (heA.ext hW)))
 have E2:=hide (fun W (hW:Ext w W)=>eq_ext (EqInts_any bA fA P.hand1.length Q.hand1.length bc fc P.hand1 Q.hand1 W rfl rfl (by omega) (by omega) (hbA.ext hW) (hfA.ext hW)))
 have HSB:=hide (show sameB P Q=(decide (P.cells=Q.cells) && (decide (P.hand0=Q.hand0) && (decide (P.hand1=Q.hand1) && decide (P.turn=Q.turn)))) from rfl)
 clear hcA haA hbA hdA heA hfA
 obtain⟨x1,k1,k2⟩:=blks2 w #[.slice cA P.cells.length cc,.slice aA P.hand0.length ac,.slice bA P.hand1.length bc,.int .i64 P.turn,.int .i64 P.quiet] 29 #[.slice dA Q.cells.length dc,.slice eA Q.hand0.length ec,.slice fA Q.hand1.length fc,.int .i64 Q.turn,.int .i64 Q.quiet] 29
 have K1:=hide k1
 have K2:=hide k2
 have X1:=hide x1
 clear x1 k1 k2
 have f1:=K1.out.cell
 have f2:=K2.out.cell
 cases b0:decide (P.cells=Q.cells)
 ·have HV:Hid (sameB P Q=false):=hide (by rw [HSB.out,b0];rfl)
  rw [b0] at E0
  go_enter Crz.func49,Tryz.ntmps49
  go_wp2_with fail
  refine(E0.out _ X1.out).mono ?_
  rintro e w2 ⟨rfl,x2⟩
  have X2:=hide (qT X1.out x2)
  have K10:=hide (K1.out.ext x2)
  have K20:=hide (K2.out.ext x2)
  clear f1 f2 x2
  have f1:=K10.out.cell
  have f2:=K20.out.cell
  go_wp2
  go_ret
  exact⟨by rw [HV.out];first | rfl | simp,X2.out⟩
 ·rw [b0] at E0
  cases b1:decide (P.hand0=Q.hand0)
  ·have HV:Hid (sameB P Q=false):=hide (by rw [HSB.out,b0,b1];rfl)
   rw [b1] at E1
   go_enter Crz.func49,Tryz.ntmps49
   go_wp2_with fail
   refine(E0.out _ X1.out).mono ?_
   rintro e w2 ⟨rfl,x2⟩
   have X2:=hide (qT X1.out x2)
   have K10:=hide (K1.out.ext x2)
   have K20:=hide (K2.out.ext x2)
   clear f1 f2 x2
   have f1:=K10.out.cell
   have f2:=K20.out.cell
   go_wp2_with fail
   refine(E1.out _ X2.out).mono ?_
   rintro e w3 ⟨rfl,x3⟩
   have X3:=hide (qT X2.out x3)
   have K11:=hide (K10.out.ext x3)
   have K21:=hide (K20.out.ext x3)
   clear f1 f2 x3
   have f1:=K11.out.cell
   have f2:=K21.out.cell
   go_wp2
   go_ret
   exact⟨by rw [HV.out];first | rfl | simp,X3.out⟩
  ·rw [b1] at E1
   cases b2:decide (P.hand1=Q.hand1)
   ·have HV:Hid (sameB P Q=false):=hide (by rw [HSB.out,b0,b1,b2];rfl)
    rw [b2] at E2
    go_enter Crz.func49,Tryz.ntmps49
    go_wp2_with fail
    refine(E0.out _ X1.out).mono ?_
    rintro e w2 ⟨rfl,x2⟩
    have X2:=hide (qT X1.out x2)
    have K10:=hide (K1.out.ext x2)
    have K20:=hide (K2.out.ext x2)
    clear f1 f2 x2
    have f1:=K10.out.cell
    have f2:=K20.out.cell
    go_wp2_with fail
    refine(E1.out _ X2.out).mono ?_
    rintro e w3 ⟨rfl,x3⟩
    have X3:=hide (qT X2.out x3)
    have K11:=hide (K10.out.ext x3)
    have K21:=hide (K20.out.ext x3)
    clear f1 f2 x3
    have f1:=K11.out.cell
    have f2:=K21.out.cell
    go_wp2_with fail
    refine(E2.out _ X3.out).mono ?_
    rintro e w4 ⟨rfl,x4⟩
    have X4:=hide (qT X3.out x4)
    have K12:=hide (K11.out.ext x4)
    have K22:=hide (K21.out.ext x4)
    clear f1 f2 x4
    have f1:=K12.out.cell
    have f2:=K22.out.cell
    go_wp2
    go_ret
    exact⟨by rw [HV.out];first | rfl | simp,X4.out⟩
   ·rw [b2] at E2
    by_cases h3:P.turn=Q.turn
    ·have HV:Hid (sameB P Q=true):=hide (by rw [HSB.out,b0,b1,b2];simp [h3])
     have t3:(P.turn == Q.turn)=true:=by simpa using h3
     clear h3
     go_enter Crz.func49,Tryz.ntmps49
     go_wp2_with fail
     refine(E0.out _ X1.out).mono ?_
     rintro e w2 ⟨rfl,x2⟩
     have X2:=hide (qT X1.out x2)
     have K10:=hide (K1.out.ext x2)
     have K20:=hide (K2.out.ext x2)
     clear f1 f2 x2
     have f1:=K10.out.cell
     have f2:=K20.out.cell
     go_wp2_with fail
     refine(E1.out _ X2.out).mono ?_
     rintro e w3 ⟨rfl,x3⟩
     have X3:=hide (qT X2.out x3)
     have K11:=hide (K10.out.ext x3)
     have K21:=hide (K20.out.ext x3)
     clear f1 f2 x3
     have f1:=K11.out.cell
     have f2:=K21.out.cell
     go_wp2_with fail
     refine(E2.out _ X3.out).mono ?_
     rintro e w4 ⟨rfl,x4⟩
     have X4:=hide (qT X3.out x4)
     have K12:=hide (K11.out.ext x4)
     have K22:=hide (K21.out.ext x4)
     clear f1 f2 x4
     have f1:=K12.out.cell
     have f2:=K22.out.cell
     go_wp2
     go_ret
     exact⟨by rw [HV.out];first | rfl | simp,X4.out⟩
    ·have HV:Hid (sameB P Q=false):=hide (by rw [HSB.out,b0,b1,b2];simp [h3])
     have t3:(P.turn == Q.turn)=false:=by simpa using h3
     clear h3
     go_enter Crz.func49,Tryz.ntmps49
     go_wp2_with fail
     refine(E0.out _ X1.out).mono ?_
     rintro e w2 ⟨rfl,x2⟩
     have X2:=hide (qT X1.out x2)
     have K10:=hide (K1.out.ext x2)
     have K20:=hide (K2.out.ext x2)
     clear f1 f2 x2
     have f1:=K10.out.cell
     have f2:=K20.out.cell
     go_wp2_with fail
     refine(E1.out _ X2.out).mono ?_
     rintro e w3 ⟨rfl,x3⟩
     have X3:=hide (qT X2.out x3)
     have K11:=hide (K10.out.ext x3)
     have K21:=hide (K20.out.ext x3)
     clear f1 f2 x3
     have f1:=K11.out.cell
     have f2:=K21.out.cell
     go_wp2_with fail
     refine(E2.out _ X3.out).mono ?_
     rintro e w4 ⟨rfl,x4⟩
     have X4:=hide (qT X3.out x4)
     have K12:=hide (K11.out.ext x4)
     have K22:=hide (K21.out.ext x4)
     clear f1 f2 x4
     have f1:=K12.out.cell
     have f2:=K22.out.cell
     go_wp2
     go_ret
     exact⟨by rw [HV.out];first | rfl | simp,X4.out⟩
def PosI(w:World)(v:Value)(P:PosM):Prop :=
 ∃ g0 c0 g1 c1 g2 c2,v=.agg #[.slice (some ⟨g0,0,none⟩) P.cells.length c0,.slice (some ⟨g1,0,none⟩) P.hand0.length c1,.slice (some ⟨g2,0,none⟩) P.hand1.length c2,.int .i64 P.turn,.int .i64 P.quiet] ∧
  IRow w g0 P.cells∧IRow w g1 P.hand0∧IRow w g2 P.hand1∧P.cells.length≤c0∧P.hand0.length≤c1∧P.hand1.length≤c2
theorem PosI.at_{w:World}{v:Value}{P:PosM}(h:PosI w v P):PA w v P:=by
 obtain⟨g0,c0,g1,c1,g2,c2,e,r0,r1,r2,h⟩:=h
 exact⟨_,c0,_,c1,_,c2,e,r0.ints,r1.ints,r2.ints,h⟩
theorem PosOwn.toI{w:World}{N:Nat}{v:Value}{P:PosM}(h:PosOwn w N v P):PosI w v P:=by
 obtain⟨g0,c0,g1,c1,g2,c2,e,-,-,-,r⟩:=h
 exact⟨g0,c0,g1,c1,g2,c2,e,r⟩
end Go.Proofs.YtdoibgmmijhlfaaGreat
