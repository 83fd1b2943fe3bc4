/- CloneInts Append Concat IRow PlaceCopy Near RegionK RegionT Three Fine Put EqInts -/
import Derived.Test.YtdoibgmmijhlfaaGreatA00
import Derived.Test.YtdoibgmmijhlfaaGreatA01
import Derived.Test.YtdoibgmmijhlfaaGreatRows
import Derived.OpenShut
import Derived.Outline
import Derived.Lib.AppendZeros
import Derived.Deep.RegionWith
import Derived.Deep.DrawnRows
import Derived.Laws.ResultCell
import Derived.Deep.RegionHeld3
import Derived.Deep.QuietTactic
import Derived.BigQuiet
namespace Go.Proofs.YtdoibgmmijhlfaaGreat
open Go.ChangeShapes Go.WideShapes Go.ChangeAt Go.RowKit
set_option linter.unusedVariables false
theorem intInfo : (Crz.prog.info? 3).map (fun i => (i.zero,i.size,i.bytes))=some (some (.int .i64 0),1,8):=by kernel_rfl
def OwnInts (w : World) (zs : List Int) (e : Ending) (w' : World) : Prop:=∃ A c,e=.returned (.slice A zs.length c)∧w'.ownsRow w.heap.size 3 1 (.slice A zs.length c) zs.length (zs.map (Value.int .i64))∧Ext w w'
theorem cloneInts_any (A : Option Addr) (n c : Nat) (zs : List Int) (w : World) (hn : zs.length=n) (hm : n≤2 ^ 40) (hA : A=none→n=0) (hz : IntsAt w A zs) :
  Calls Crz.prog 89 #[.slice A n c] w (OwnInts w zs):=by
 subst hn
 have hnil:=fun W => Lib.run_eql_slice_nil (P:=Crz.prog) W 23 3 A zs.length c 0 0 Crz.underlying23
 obtain ⟨i0,hi,hz0,hz1,hz2⟩:=info_parts intInfo
 cases A with
 | none =>
  have h0 : zs=[]:=List.eq_nil_of_length_eq_zero (hA rfl)
  subst h0
  simp only [List.length_nil] at hnil ⊢
  go_enter Crz.func89,Tryz.ntmps89
  go_wp2
  go_ret
  exact ⟨none,0,rfl,World.ownsRow_nil _ _ _ _,Below.refl _ _⟩
 | some ad =>
  have hcs:=ints_cells hz
  clear hA
  have hown:=World.ownsRow_made w #[] 0 (base:=w.heap.size) (e:=3) (size:=1) (Nat.le_refl _) (by simp [maxLen]) rfl
  go_enter Crz.func89,Tryz.ntmps89
  go_wp2_with (at_builtin; refine wpList_append_cells _ rfl (.tmp 5) (.tmp 6) 23 rfl w.heap.size 3 i0 (.int .i64 0) 1 8 Crz.underlying23 hi hz0 hz1 hz2 rfl (by decide) _ 0 [] rfl hown (some ad) zs.length c (zs.map (Value.int .i64)) rfl (by simp) (hcs.ext (ext_alloc (Below.refl _ _) _)) (one_ints zs) (by simp only [maxLen]; omega) (by omega) (by simp) (by simp) ?_; intro v' w1 hown1 hgrow)
  obtain ⟨A',c',rfl,_,_⟩:=own_shape hown1
  go_ret
  simp only [Nat.zero_add,List.nil_append] at hown1
  refine ⟨A',c',by simp,hown1,ext_grown (ext_alloc (Below.refl _ _) _) hgrow (own_row hown)⟩
theorem moveInfo : (Crz.prog.info? 31).map (fun i => (i.zero,i.size,i.bytes))=some (some (.agg #[.int .i64 0,.int .i64 0,.int .i64 0]),3,24):=by kernel_rfl
def OwnI (w0 w : World) (v : Value) (xs : List Int) : Prop:=∃ A c,v=.slice A xs.length c∧w.ownsRow w0.heap.size 3 1 (.slice A xs.length c) xs.length (xs.map (Value.int .i64))
def OwnM (w0 w : World) (v : Value) (ms : List MoveM) : Prop:=∃ A c,v=.slice A ms.length c∧w.ownsRow w0.heap.size 31 3 (.slice A ms.length c) ms.length (ms.flatMap MoveM.vals)
theorem OwnI.nil (w0 w : World) : OwnI w0 w (.slice none 0 0) []:=⟨none,0,rfl,World.ownsRow_nil _ _ _ _⟩
theorem OwnM.nil (w0 w : World) : OwnM w0 w (.slice none 0 0) []:=⟨none,0,rfl,World.ownsRow_nil _ _ _ _⟩
theorem OwnI.ext {w0 w w' : World} {v : Value} {xs : List Int} (h : OwnI w0 w v xs) (he : Ext w w') : OwnI w0 w' v xs:=by
 obtain ⟨A,c,e,h⟩:=h
 exact ⟨A,c,e,own_ext h he⟩
theorem OwnM.ext {w0 w w' : World} {v : Value} {xs : List MoveM} (h : OwnM w0 w v xs) (he : Ext w w') : OwnM w0 w' v xs:=by
 obtain ⟨A,c,e,h⟩:=h
 exact ⟨A,c,e,own_ext h he⟩
theorem len_vals (ms : List MoveM) : (ms.flatMap MoveM.vals).length=ms.length * 3:=by
 induction ms with
 | nil => rfl
 | cons a l ih => rw [List.flatMap_cons,List.length_append,ih,List.length_cons,Nat.add_mul]; simp [MoveM.vals]; omega
theorem wp_append_int {ops : Array Oper} {rest : List Oper} {o : Oper} {a : Act} {Q : Exit→Act→World→Prop} (s x : Operand) (hgd : o.guard=none)
  (ho : o.op=.call { callee:=.builtin .append,args:=#[s,x],argTypes:=#[23,23] }) (w0 w : World) (v : Value) (xs : List Int) (z : Int) (hs : a.eval s=v) (hown : OwnI w0 w v xs) (hx : a.eval x=.slice (some ⟨w.heap.size,0,none⟩) 1 1)
  (hext : Ext w0 w) (hlen : xs.length≤1000000) (h : ∀ v' w',OwnI w0 w' v' (xs ++ [z])→Ext w0 w'→w.grownBy w' v.ownBlock→wpList Crz.prog ops Q rest (a.put o.dst v') w') :
  wpList Crz.prog ops Q (o :: rest) a (w.alloc (.cells #[.int .i64 z] 3)):=by
 obtain ⟨A,c,rfl,hown⟩:=hown
 obtain ⟨i0,hi,hz0,hz1,hz2⟩:=info_parts intInfo
 have hsz:=hext.size
 refine wpList_append_cells (P:=Crz.prog) _ hgd s x 23 ho w0.heap.size 3 i0 (.int .i64 0) 1 8 Crz.underlying23 hi hz0 hz1 hz2 rfl (by decide) _ xs.length (xs.map (Value.int .i64)) hs (own_ext hown (ext_alloc (Below.refl _ _) _)) _ 1 1 [.int .i64 z] hx rfl (cellsAt_new w 3 [.int .i64 z]) (by simp [Value.oneCell']) (by simp only [maxLen]; omega) (by omega) (by simp; omega) (by simp) ?_
 intro v' w' hown' hgrow
 obtain ⟨A',c',rfl,_,_⟩:=own_shape hown'
 refine h _ w' ⟨A',c',by simp,by simpa using hown'⟩ (ext_grown (ext_alloc hext _) hgrow (own_row hown)) ?_
 exact ⟨hgrow.os,hgrow.tape,hgrow.output,by have:=hgrow.size; simp at this; omega,fun b hb hn => by
  rw [hgrow.block b (by simp; omega) hn]
  exact Below.heap_alloc w _ b hb⟩
theorem wp_append_move {ops : Array Oper} {rest : List Oper} {o : Oper} {a : Act} {Q : Exit→Act→World→Prop} (s x : Operand) (hgd : o.guard=none)
  (ho : o.op=.call { callee:=.builtin .append,args:=#[s,x],argTypes:=#[69,69] }) (w0 w : World) (v : Value) (xs : List MoveM) (m : MoveM) (hs : a.eval s=v) (hown : OwnM w0 w v xs) (hx : a.eval x=.slice (some ⟨w.heap.size,0,none⟩) 1 1)
  (hext : Ext w0 w) (hlen : xs.length≤1000000) (h : ∀ v' w',OwnM w0 w' v' (xs ++ [m])→Ext w0 w'→w.grownBy w' v.ownBlock→wpList Crz.prog ops Q rest (a.put o.dst v') w') :
  wpList Crz.prog ops Q (o :: rest) a (w.alloc (.cells #[.int .i64 m.src,.int .i64 m.dst,.int .i64 m.piece] 31)):=by
 obtain ⟨A,c,rfl,hown⟩:=hown
 obtain ⟨i0,hi,hz0,hz1,hz2⟩:=info_parts moveInfo
 have hsz:=hext.size
 refine wpList_append_cells (P:=Crz.prog) _ hgd s x 69 ho w0.heap.size 31 i0 (.agg #[.int .i64 0,.int .i64 0,.int .i64 0]) 3 24 Crz.underlying69 hi hz0 hz1 hz2 rfl (by decide) _ xs.length (xs.flatMap MoveM.vals) hs (own_ext hown (ext_alloc (Below.refl _ _) _)) _ 1 1 m.vals hx rfl (cellsAt_new w 31 m.vals) (by simp [MoveM.vals,Value.oneCell']) (by simp only [maxLen]; omega) (by omega) (by simp; omega) (by simp) ?_
 intro v' w' hown' hgrow
 obtain ⟨A',c',rfl,_,_⟩:=own_shape hown'
 refine h _ w' ⟨A',c',by simp,by simpa using hown'⟩ (ext_grown (ext_alloc hext _) hgrow (own_row hown)) ?_
 exact ⟨hgrow.os,hgrow.tape,hgrow.output,by have:=hgrow.size; simp at this; omega,fun b hb hn => by
  rw [hgrow.block b (by simp; omega) hn]
  exact Below.heap_alloc w _ b hb⟩
theorem OwnI.ints {w0 w : World} {v : Value} {xs : List Int} (h : OwnI w0 w v xs) : ∃ A c,v=.slice A xs.length c∧IntsAt w A xs:=by
 obtain ⟨A,c,e,h⟩:=h
 exact ⟨A,c,e,cells_ints (own_cells h).1⟩
theorem intInfoC : (Crz.prog.info? 3).map (fun i => (i.zero,i.size,i.bytes))=some (some (.int .i64 0),1,8):=by kernel_rfl
def OwnNone (w : World) (e : Ending) (w' : World) : Prop:=∃ A c,e=.returned (.slice A 0 c)∧w'.ownsRow w.heap.size 3 1 (.slice A 0 c) 0 []∧Ext w w'
set_option maxRecDepth 100000 in
theorem Grow_nil (n : Nat) (w : World) (hn : n≤100000) :
  Calls Crz.prog 140 #[.slice none 0 0,.int .i64 (n : Int)] w (OwnNone w):=by
 obtain ⟨i0,hi,hz0,hz1,hz2⟩:=info_parts intInfoC
 by_cases h0 : n=0
 ·subst h0
  go_enter Crz.func140,Tryz.ntmps140
  go_wp2
  go_ret
  exact ⟨none,0,rfl,World.ownsRow_nil _ _ _ _,Below.refl _ _⟩
 ·have hap:=fun W => Lib.run_append_nil_zeros (P:=Crz.prog) W 23 3 23 3 i0 (.int .i64 0) .i64 .i64 Crz.underlying23 Crz.underlying3 hi hz0 n (by omega) (by omega) (by omega) (by rw [hz2]; omega)
  have hgc:=grownCap_ge w n 0 3
  have hgm:=grownCap_le_maxLen w n 0 3 (by simp only [maxLen]; omega)
  have hpos : 0 < n:=by omega
  have HAP:=hide hap
  have HGC:=hide hgc
  have HGM:=hide hgm
  clear hap h0 hgc hgm
  go_enter Crz.func140,Tryz.ntmps140
  go_wp2_with (at_builtin; refine Lib.wpList_append_run _ rfl (.tmp 20) (.tmp 21) 23 3 rfl (.slice none 0 0) (.int .i64 (n : Int)) rfl rfl _ _ (HAP.out _) ?_)
  go_ret
  refine ⟨_,_,rfl,?_,?_⟩
  ·refine World.ownsRow_made w.drew _ _ (Nat.le_refl _) HGM.out ?_
   have:=HGC.out
   simp [Builtin.zeroCells]
   omega
  ·exact Below.alloc (Below.drew (Below.refl _ _)) (Nat.le_refl _) _
theorem ints_none {w : World} {A : Option Addr} {zs : List Int} (h : IntsAt w A zs) (e : A=none) : zs.length=0:=by
 subst e
 by_cases h0 : zs.length=0
 ·exact h0
 ·obtain ⟨_,_,e,_⟩:=h 0 (by omega)
  cases e
def sz2 (n m : Nat) (k : Nat) : Nat:=if k=0 then 0 else if k=1 then n else n + m
def el2 (xs ys : List Int) (k : Nat) : List Int:=if k=0 then [] else if k=1 then xs else xs ++ ys
set_option maxHeartbeats 1000000 in
set_option maxRecDepth 100000 in
theorem Concat_two (L : Addr) (A B : Option Addr) (n m c d e : Nat) (xs ys : List Int) (w : World) (hx : xs.length=n) (hy : ys.length=m) (hn : n≤1000) (hm : m≤1000) (hL : L.spot=none)
  (c0 : w.cell? L=some (.slice A n c)) (c1 : w.cell? ⟨L.block,L.off + 1,none⟩=some (.slice B m d)) (hA : IntsAt w A xs) (hB : IntsAt w B ys) :
  Calls Crz.prog 118 #[.slice (some L) 2 e] w fun e w' => ∃ A' c',e=.returned (.slice A' (n + m) c')∧IntsAt w' A' (xs ++ ys)∧Ext w w':=by
 obtain ⟨i0,hi,hz0,hz1,hz2⟩:=info_parts intInfoC
 obtain ⟨b,o,s⟩:=L
 obtain rfl : s=none:=hL
 have HX:=hide hx
 have HY:=hide hy
 have hA0:=hide (ints_none hA)
 have hB0:=hide (ints_none hB)
 clear hx hy
 have hc0 : w.cell? ⟨b,o,none⟩=some (.slice A n c):=c0
 have hc1 : w.cell? ⟨b,o + 1,none⟩=some (.slice B m d):=c1
 clear c0 c1
 go_enter Crz.func118,Tryz.ntmps118
 go_wp2
 go_loop [3,5,11] (fun s _ i => ∃ k : Nat,k≤2∧i=.int .i64 k∧s=.int .i64 (sz2 n m k)) (fun _ _ i => 2 - (intOf i).toNat)
 case atStart => exact ⟨0,by omega,rfl,rfl⟩
 case round =>
  obtain ⟨k,hk,rfl,rfl⟩:=hrel
  rcases (by omega : k=0∨k=1∨k=2) with rfl | rfl | rfl
  ·rw [show sz2 n m 0=0 from rfl]
   go_wp2
   go_round
   case rel => exact ⟨1,by omega,by go_num,by simp [sz2]⟩
   case measure => simp [intOf]
  ·rw [show sz2 n m 1=n from rfl]
   go_wp2
   go_round
   case rel => exact ⟨2,by omega,by go_num,by simp [sz2]⟩
   case measure => simp [intOf]
  ·rw [show sz2 n m 2=n + m from rfl]
   have HG:=hide (Grow_nil (n + m) w (by omega))
   go_wp2_with fail
   refine HG.out.mono ?_
   rintro e w2 ⟨A2,c2,rfl,hown,x2⟩
   have HC0:=hide hc0
   have hc0':=Ext.cell x2 hc0
   have hc1':=Ext.cell x2 hc1
   clear hc0 hc1 HG
   go_wp2_with fail
   have hbw0 : b < w.heap.size:=lt_of_cell HC0.out
   have HBW:=hide hbw0
   clear hbw0
   go_loopw [6,8,27] (fun v _ i wr => ∃ (k : Nat) (Av : Option Addr) (cv : Nat),k≤2∧i=.int .i64 k∧v=.slice Av (sz2 n m k) cv∧wr.ownsRow w.heap.size 3 1 (.slice Av (sz2 n m k) cv) (sz2 n m k) ((el2 xs ys k).map (Value.int .i64))∧Ext w wr∧wr.cell? ⟨b,o,none⟩=some (.slice A n c)∧wr.cell? ⟨b,o + 1,none⟩=some (.slice B m d)) (fun _ _ i _ => 2 - (intOf i).toNat)
   case atStart => exact ⟨0,A2,c2,by omega,rfl,rfl,hown,x2,hc0',hc1'⟩
   case round =>
    obtain ⟨k,Av,cv,hk,rfl,rfl,hown,hext,q0,q1⟩:=hrel
    clear hc0' hc1' x2
    have hsz:=hext.size
    rcases (by omega : k=0∨k=1∨k=2) with rfl | rfl | rfl
    ·have hown' : wr.ownsRow w.heap.size 3 1 (.slice Av 0 cv) 0 []:=hown
     have HO:=hide hown'
     clear hown hown'
     rw [show sz2 n m 0=0 from rfl]
     go_wp2_with (at_builtin; go_must (refine wpList_append_cells _ rfl (.tmp 31) (.tmp 32) 23 rfl w.heap.size 3 i0 (.int .i64 0) 1 8 Crz.underlying23 hi hz0 hz1 hz2 rfl (by decide) (.slice Av 0 cv) 0 [] rfl HO.out A n c (xs.map (Value.int .i64)) rfl ?len (ints_cells (hA.ext hext)) (one_ints xs) (by simp only [maxLen]; omega) (by omega) hsz ?nil ?_))
     case len => simp [HX.out]
     case nil => intro h; rw [← HX.out]; exact hA0.out h
     intro v4 w4 hown4 hgrow
     have hx4 : Ext w w4:=ext_grown hext hgrow (own_row HO.out)
     have hb : b < wr.heap.size:=lt_of_cell q0
     have hbw : some b ≠ (Value.slice Av 0 cv).ownBlock:=fun h => by have:=(HO.out.lt b h.symm).1; have:=HBW.out; omega
     have q0':=(World.cell?_of_block (a:=⟨b,o,none⟩) (hgrow.block b hb hbw)).trans q0
     have q1':=(World.cell?_of_block (a:=⟨b,o + 1,none⟩) (hgrow.block b hb hbw)).trans q1
     obtain ⟨A4,c4,rfl,_,_⟩:=own_shape hown4
     have HO4:=hide hown4
     have HQ0:=hide q0'
     have HQ1:=hide q1'
     clear hown4 q0' q1' hgrow hbw HO
     go_wp2
     go_roundw
     case rel =>
      refine ⟨1,A4,c4,by omega,rfl,?_,?_,hx4,HQ0.out,HQ1.out⟩
      ·simp [sz2]
      ·simpa [sz2,el2] using HO4.out
     case measure => simp [intOf]
    ·have hown' : wr.ownsRow w.heap.size 3 1 (.slice Av n cv) n (xs.map (Value.int .i64)):=hown
     have HO:=hide hown'
     clear hown hown'
     rw [show sz2 n m 1=n from rfl]
     go_wp2_with (at_builtin; go_must (refine wpList_append_cells _ rfl (.tmp 31) (.tmp 32) 23 rfl w.heap.size 3 i0 (.int .i64 0) 1 8 Crz.underlying23 hi hz0 hz1 hz2 rfl (by decide) (.slice Av n cv) n (xs.map (Value.int .i64)) rfl HO.out B m d (ys.map (Value.int .i64)) rfl ?len (ints_cells (hB.ext hext)) (one_ints ys) (by simp only [maxLen]; omega) (by omega) hsz ?nil ?_))
     case len => simp [HY.out]
     case nil => intro h; rw [← HY.out]; exact hB0.out h
     intro v4 w4 hown4 hgrow
     have hx4 : Ext w w4:=ext_grown hext hgrow (own_row HO.out)
     have hb : b < wr.heap.size:=lt_of_cell q0
     have hbw : some b ≠ (Value.slice Av n cv).ownBlock:=fun h => by have:=(HO.out.lt b h.symm).1; have:=HBW.out; omega
     have q0':=(World.cell?_of_block (a:=⟨b,o,none⟩) (hgrow.block b hb hbw)).trans q0
     have q1':=(World.cell?_of_block (a:=⟨b,o + 1,none⟩) (hgrow.block b hb hbw)).trans q1
     obtain ⟨A4,c4,rfl,_,_⟩:=own_shape hown4
     have HO4:=hide hown4
     have HQ0:=hide q0'
     have HQ1:=hide q1'
     clear hown4 q0' q1' hgrow hbw HO
     go_wp2
     go_roundw
     case rel =>
      refine ⟨2,A4,c4,by omega,rfl,?_,?_,hx4,HQ0.out,HQ1.out⟩
      ·simp [sz2]
      ·simpa [sz2,el2] using HO4.out
     case measure => simp [intOf]
    ·have HO4 : Hid (wr.ownsRow w.heap.size 3 1 (.slice Av (n + m) cv) (n + m) ((xs ++ ys).map (Value.int .i64))):=hide hown
     clear hown
     rw [show sz2 n m 2=n + m from rfl]
     go_wp2
     go_ret
     exact ⟨Av,cv,rfl,cells_ints (own_cells HO4.out).1,hext⟩
end Go.Proofs.YtdoibgmmijhlfaaGreat
namespace Go.Proofs.YtdoibgmmijhlfaaGreat
open Go.RowKit
def IRow (w : World) (g : Nat) (zs : List Int) : Prop:=∃ cur : Array Value,w.heap[g]? = some (.cells cur 3 (0,0))∧cur.toList.take zs.length=zs.map (Value.int .i64)
section
variable {w w' : World} {g : Nat} {zs : List Int}
theorem IRow.lt (h : IRow w g zs) : g < w.heap.size:=by
 obtain ⟨cur,h,_⟩:=h
 exact (Array.getElem?_eq_some_iff.1 h).1
theorem IRow.cell (h : IRow w g zs) {i : Nat} (hi : i < zs.length) : w.cell? ⟨g,i,none⟩=some (.int .i64 (zs.getD i 0)):=by
 obtain ⟨cur,h,ht⟩:=h
 rw [cell_of_row _ _ _ cur 3 (0,0) h]
 have e : (cur.toList.take zs.length)[i]? = (zs.map (Value.int .i64))[i]?:=by rw [ht]
 rw [List.getElem?_take,if_pos hi] at e
 simp [hi] at e
 simp [hi,e]
theorem IRow.frozen (h : IRow w g zs) (i : Nat) : w.frozen? ⟨g,i,none⟩=false:=by
 obtain ⟨cur,h,_⟩:=h
 simp [World.frozen?,h]
theorem IRow.ints (h : IRow w g zs) : IntsAt w (some ⟨g,0,none⟩) zs:=fun i hi => ⟨g,0,rfl,by rw [Nat.zero_add]; exact h.cell hi⟩
theorem IRow.far (h : IRow w g zs) {p : Addr} (hp : g ≠ p.block) (u : Value) : IRow (w.setCell p u) g zs:=by
 obtain ⟨cur,h,ht⟩:=h
 exact ⟨cur,(Below.heap_setCell w p u g hp).trans h,ht⟩
theorem IRow.ext (h : IRow w g zs) (he : Ext w w') : IRow w' g zs:=by
 obtain ⟨cur,h,ht⟩:=h
 exact ⟨cur,(he.block g (Array.getElem?_eq_some_iff.1 h).1).trans h,ht⟩
theorem IRow.same (h : IRow w g zs) (he : w'.heap[g]? = w.heap[g]?) : IRow w' g zs:=by
 obtain ⟨cur,h,ht⟩:=h
 exact ⟨cur,he.trans h,ht⟩
theorem IRow.drew (h : IRow w g zs) : IRow w.drew g zs:=h
theorem IRow.alloc (h : IRow w g zs) (o : Obj) : IRow (w.alloc o) g zs:=h.ext (ext_alloc (Below.refl _ _) o)
theorem IRow.set_ (h : IRow w g zs) (i : Nat) (u : Int) : IRow (w.setCell ⟨g,i,none⟩ (.int .i64 u)) g (zs.set i u):=by
 obtain ⟨cur,h,ht⟩:=h
 refine ⟨cur.setIfInBounds i (.int .i64 u),?_,?_⟩
 ·simp [World.setCell,Array.getElem?_modify,h]
 ·rw [List.length_set,List.map_set,← ht,Array.toList_setIfInBounds,List.take_set]
end
theorem own_irow {w : World} {B n c : Nat} {A : Option Addr} {zs : List Int} (h : w.ownsRow B 3 1 (.slice A n c) n (zs.map (Value.int .i64))) (hn : zs.length=n) (h1 : 1≤n) : ∃ g,A=some ⟨g,0,none⟩∧B≤g∧IRow w g zs∧n≤c:=by
 have hc:=own_cap h
 rcases h.2 with ⟨e1,e2⟩ | ⟨g,cap,cur,e1,hb,hg,_,_,_,ht⟩
 ·omega
 ·injection e1 with a b c
  subst a
  refine ⟨g,rfl,hb,⟨cur,hg,?_⟩,hc⟩
  rw [← ht]
  simp [hn]
def PosOwn (w : World) (B : Nat) (v : Value) (P : PosM) : Prop :=
 ∃ g0 c0 g1 c1 g2 c2,v=.agg #[.slice (some ⟨g0,0,none⟩) P.cells.length c0,.slice (some ⟨g1,0,none⟩) P.hand0.length c1,.slice (some ⟨g2,0,none⟩) P.hand1.length c2,.int .i64 P.turn,.int .i64 P.quiet] ∧
  B≤g0∧g0 < g1∧g1 < g2∧IRow w g0 P.cells∧IRow w g1 P.hand0∧IRow w g2 P.hand1∧P.cells.length≤c0∧P.hand0.length≤c1∧P.hand1.length≤c2
theorem PosOwn.at_ {w : World} {B : Nat} {v : Value} {P : PosM} (h : PosOwn w B v P) : PosAt w v P:=by
 obtain ⟨g0,c0,g1,c1,g2,c2,e,-,-,-,r0,r1,r2,h⟩:=h
 exact ⟨_,c0,_,c1,_,c2,e,r0.ints,r1.ints,r2.ints,h⟩
theorem blk_put {w : World} {g i : Nat} {t : TypeId} {cs cs' : Array Value} {u : Value} (h : Blk w g t cs) (e : cs.setIfInBounds i u=cs') : Blk (w.setCell ⟨g,i,none⟩ u) g t cs':=by
 have:=h.set_ i u
 rwa [e] at this
end Go.Proofs.YtdoibgmmijhlfaaGreat
namespace Go.Proofs.YtdoibgmmijhlfaaGreat
open Go.ChangeShapes Go.WideShapes Go.ChangeAt Go.RowKit
set_option linter.unusedVariables false
attribute [local go_sem ↓] Go.wp_at_zero Go.wp_at_succ
set_option maxHeartbeats 1000000 in
set_option maxRecDepth 100000 in
theorem PCopy_any (P : PosM) (v : Value) (w : World) (hP : PosAt w v P) (h0 : 1≤P.cells.length) (h1 : 1≤P.hand0.length) (h2 : 1≤P.hand1.length) (b0 : P.cells.length≤100000) (b1 : P.hand0.length≤100000) (b2 : P.hand1.length≤100000) :
  Calls Crz.prog 70 #[v] w fun e w' => ∃ v',e=.returned v'∧PosOwn w' w.heap.size v' P∧Ext w w':=by
 obtain ⟨cA,cc,aA,ac,bA,bc,rfl,hcA,haA,hbA,-⟩:=hP
 have nn : ∀ {A : Option Addr} {zs : List Int},IntsAt w A zs→1≤zs.length→A=none→zs.length=0:=fun hz h1 e => by
  obtain ⟨_,_,e2,_⟩:=hz 0 (by omega)
  rw [e] at e2; cases e2
 have C0:=hide (fun W (hW : Ext w W) => cloneInts_any cA P.cells.length cc P.cells W rfl (by omega) (nn hcA h0) (hcA.ext hW))
 have C1:=hide (fun W (hW : Ext w W) => cloneInts_any aA P.hand0.length ac P.hand0 W rfl (by omega) (nn haA h1) (haA.ext hW))
 have C2:=hide (fun W (hW : Ext w W) => cloneInts_any bA P.hand1.length bc P.hand1 W rfl (by omega) (nn hbA h2) (hbA.ext hW))
 have H0:=hide h0
 have H1:=hide h1
 have H2:=hide h2
 clear hcA haA hbA nn h0 h1 h2 b0 b1 b2
 go_enter Crz.func70,Tryz.ntmps70
 go_wp2_with fail
 obtain ⟨x1,k1,k2⟩:=blks2 w #[.slice cA P.cells.length cc,.slice aA P.hand0.length ac,.slice bA P.hand1.length bc,.int .i64 P.turn,.int .i64 P.quiet] 29 #[.slice none 0 0,.slice none 0 0,.slice none 0 0,.int .i64 0,.int .i64 0] 29
 refine (C0.out _ x1).mono ?_
 rintro e w2 ⟨A0,c0,rfl,own0,x2⟩
 obtain ⟨g0,rfl,q0,r0,m0⟩:=own_irow own0 rfl H0.out
 have y2:=ext_trans x1 x2
 have l1:=k1.ext x2
 have l2:=k2.ext x2
 have hs : w.heap.size + 1 + 1≤g0:=by simpa using q0
 clear x1 x2 k1 k2 own0 q0 C0
 have hB : w.heap.size≤w.heap.size:=Nat.le_refl _
 generalize hB2 : w.heap.size + 1=B2 at *
 generalize hB1 : w.heap.size=B1 at *
 have HB1:=hide hB1
 have HB2:=hide hB2
 clear hB1 hB2 hB
 have f1:=l1.cell
 have z1:=l1.frozen
 have hle : w.heap.size≤B1:=by rw [HB1.out]; exact Nat.le_refl _
 have hne : B2 ≠ B1:=by have:=HB2.out; omega
 have hg0 : B2 < g0:=by omega
 have hle2 : w.heap.size≤B2:=by have:=HB2.out; omega
 go_wp2
 have k3:=blk_put l1 (i:=0) (u:=.slice (some ⟨g0,0,none⟩) P.cells.length c0) rfl
 have l3:=l2.far (p:=⟨B1,0,none⟩) hne (.slice (some ⟨g0,0,none⟩) P.cells.length c0)
 have s3:=r0.far (p:=⟨B1,0,none⟩) (by show g0 ≠ B1; have:=HB2.out; omega) (.slice (some ⟨g0,0,none⟩) P.cells.length c0)
 have y3:=ext_set y2 (p:=⟨B1,0,none⟩) hle (.slice (some ⟨g0,0,none⟩) P.cells.length c0)
 clear f1 z1 l1 l2 r0 y2
 generalize w2.setCell ⟨B1,0,none⟩ (.slice (some ⟨g0,0,none⟩) P.cells.length c0)=w3 at *
 have k3d:=k3.drew
 have l3d:=l3.drew
 have s3d:=s3.drew
 have y3d : Ext w w3.drew:=Below.drew y3
 have f3:=k3d.cell
 clear k3 l3 s3 y3
 have HG:=hide hg0
 have HL:=hide hle
 have HL2:=hide hle2
 have HN:=hide hne
 clear hg0 hle hle2 hne hs
 go_region_with (first
  | (go_at_call 89; refine (C2.out _ y4).mono ?_; rintro e w5 ⟨A2,c2,rfl,own2,x5⟩; have z5:=(k4.ext x5).frozen; have f5:=(k4.ext x5).cell)
  | (go_at_call 89; refine (C1.out _ y3d).mono ?_; rintro e w4 ⟨A1,c1,rfl,own1,x4⟩; have y4:=ext_trans y3d x4; have k4:=k3d.ext x4; have f4:=k4.cell))
 all_goals
  have y5:=ext_trans y4 x5
  obtain ⟨g1,rfl,q1,r1,m1⟩:=own_irow own1 rfl H1.out
  obtain ⟨g2,rfl,q2,r2,m2⟩:=own_irow own2 rfl H2.out
  have q1' : g0 < g1:=Nat.lt_of_lt_of_le s3d.lt q1
  have q2' : g1 < g2:=Nat.lt_of_lt_of_le r1.lt q2
  have R0:=(s3d.ext x4).ext x5
  have R1:=r1.ext x5
  have K5:=k4.ext x5
  have L5:=(l3d.ext x4).ext x5
  have hn : ¬ B1=B2:=fun h => HN.out h.symm
  have zl:=L5.frozen
  have zc:=L5.cell
  clear own1 own2 q1 q2 f3 f4 x4 x5 y4 k4 r1 s3d y3d k3d l3d C1 C2
  go_wp2
  have hne1 : ∀ g,g0≤g→g ≠ B1∧g ≠ B2:=fun g hg => by have:=HG.out; have:=HB2.out; omega
  have K6:=blk_set5 (((L5.far (p:=⟨B1,1,none⟩) HN.out (.slice (some ⟨g1,0,none⟩) P.hand0.length c1)).far (p:=⟨B1,2,none⟩) HN.out (.slice (some ⟨g2,0,none⟩) P.hand1.length c2))) (u0:=.slice (some ⟨g0,0,none⟩) P.cells.length c0) (u1:=.slice (some ⟨g1,0,none⟩) P.hand0.length c1) (u2:=.slice (some ⟨g2,0,none⟩) P.hand1.length c2) (u3:=.int .i64 P.turn) (u4:=.int .i64 P.quiet)
  have X6:=(ext_set (ext_set (ext_set (ext_set (ext_set (ext_set (ext_set y5 (p:=⟨B1,1,none⟩) HL.out (.slice (some ⟨g1,0,none⟩) P.hand0.length c1)) (p:=⟨B1,2,none⟩) HL.out (.slice (some ⟨g2,0,none⟩) P.hand1.length c2)) (p:=⟨B2,0,none⟩) HL2.out (.slice (some ⟨g0,0,none⟩) P.cells.length c0)) (p:=⟨B2,1,none⟩) HL2.out (.slice (some ⟨g1,0,none⟩) P.hand0.length c1)) (p:=⟨B2,2,none⟩) HL2.out (.slice (some ⟨g2,0,none⟩) P.hand1.length c2)) (p:=⟨B2,3,none⟩) HL2.out (.int .i64 P.turn)) (p:=⟨B2,4,none⟩) HL2.out (.int .i64 P.quiet))
  have E0:=(IRow.far (IRow.far (IRow.far (IRow.far (IRow.far (IRow.far (IRow.far R0 (p:=⟨B1,1,none⟩) (hne1 g0 (by omega)).1 (.slice (some ⟨g1,0,none⟩) P.hand0.length c1)) (p:=⟨B1,2,none⟩) (hne1 g0 (by omega)).1 (.slice (some ⟨g2,0,none⟩) P.hand1.length c2)) (p:=⟨B2,0,none⟩) (hne1 g0 (by omega)).2 (.slice (some ⟨g0,0,none⟩) P.cells.length c0)) (p:=⟨B2,1,none⟩) (hne1 g0 (by omega)).2 (.slice (some ⟨g1,0,none⟩) P.hand0.length c1)) (p:=⟨B2,2,none⟩) (hne1 g0 (by omega)).2 (.slice (some ⟨g2,0,none⟩) P.hand1.length c2)) (p:=⟨B2,3,none⟩) (hne1 g0 (by omega)).2 (.int .i64 P.turn)) (p:=⟨B2,4,none⟩) (hne1 g0 (by omega)).2 (.int .i64 P.quiet))
  have E1:=(IRow.far (IRow.far (IRow.far (IRow.far (IRow.far (IRow.far (IRow.far R1 (p:=⟨B1,1,none⟩) (hne1 g1 (by omega)).1 (.slice (some ⟨g1,0,none⟩) P.hand0.length c1)) (p:=⟨B1,2,none⟩) (hne1 g1 (by omega)).1 (.slice (some ⟨g2,0,none⟩) P.hand1.length c2)) (p:=⟨B2,0,none⟩) (hne1 g1 (by omega)).2 (.slice (some ⟨g0,0,none⟩) P.cells.length c0)) (p:=⟨B2,1,none⟩) (hne1 g1 (by omega)).2 (.slice (some ⟨g1,0,none⟩) P.hand0.length c1)) (p:=⟨B2,2,none⟩) (hne1 g1 (by omega)).2 (.slice (some ⟨g2,0,none⟩) P.hand1.length c2)) (p:=⟨B2,3,none⟩) (hne1 g1 (by omega)).2 (.int .i64 P.turn)) (p:=⟨B2,4,none⟩) (hne1 g1 (by omega)).2 (.int .i64 P.quiet))
  have E2:=(IRow.far (IRow.far (IRow.far (IRow.far (IRow.far (IRow.far (IRow.far r2 (p:=⟨B1,1,none⟩) (hne1 g2 (by omega)).1 (.slice (some ⟨g1,0,none⟩) P.hand0.length c1)) (p:=⟨B1,2,none⟩) (hne1 g2 (by omega)).1 (.slice (some ⟨g2,0,none⟩) P.hand1.length c2)) (p:=⟨B2,0,none⟩) (hne1 g2 (by omega)).2 (.slice (some ⟨g0,0,none⟩) P.cells.length c0)) (p:=⟨B2,1,none⟩) (hne1 g2 (by omega)).2 (.slice (some ⟨g1,0,none⟩) P.hand0.length c1)) (p:=⟨B2,2,none⟩) (hne1 g2 (by omega)).2 (.slice (some ⟨g2,0,none⟩) P.hand1.length c2)) (p:=⟨B2,3,none⟩) (hne1 g2 (by omega)).2 (.int .i64 P.turn)) (p:=⟨B2,4,none⟩) (hne1 g2 (by omega)).2 (.int .i64 P.quiet))
  clear K5 R0 R1 r2 y5 zl zc hne1 z5 f5
  generalize (((((((w5.setCell ⟨B1,1,none⟩ (.slice (some ⟨g1,0,none⟩) P.hand0.length c1)).setCell ⟨B1,2,none⟩ (.slice (some ⟨g2,0,none⟩) P.hand1.length c2)).setCell ⟨B2,0,none⟩ (.slice (some ⟨g0,0,none⟩) P.cells.length c0)).setCell ⟨B2,1,none⟩ (.slice (some ⟨g1,0,none⟩) P.hand0.length c1)).setCell ⟨B2,2,none⟩ (.slice (some ⟨g2,0,none⟩) P.hand1.length c2)).setCell ⟨B2,3,none⟩ (.int .i64 P.turn)).setCell ⟨B2,4,none⟩ (.int .i64 P.quiet))=Wf at *
  have rr0 : Wf.cell? ⟨B2,0,none⟩=some (.slice (some ⟨g0,0,none⟩) P.cells.length c0):=K6.cell 0
  have rr1 : Wf.cell? ⟨B2,1,none⟩=some (.slice (some ⟨g1,0,none⟩) P.hand0.length c1):=K6.cell 1
  have rr2 : Wf.cell? ⟨B2,2,none⟩=some (.slice (some ⟨g2,0,none⟩) P.hand1.length c2):=K6.cell 2
  have rr3 : Wf.cell? ⟨B2,3,none⟩=some (.int .i64 P.turn):=K6.cell 3
  have rr4 : Wf.cell? ⟨B2,4,none⟩=some (.int .i64 P.quiet):=K6.cell 4
  refine bodyPost_ret (v:=.agg #[.slice (some ⟨g0,0,none⟩) P.cells.length c0,.slice (some ⟨g1,0,none⟩) P.hand0.length c1,.slice (some ⟨g2,0,none⟩) P.hand1.length c2,.int .i64 P.turn,.int .i64 P.quiet]) ?_ rfl ?_
  ·simp [results,Tryz.results70,go_sem,rr0,rr1,rr2,rr3,rr4]
  ·exact ⟨_,rfl,⟨g0,c0,g1,c1,g2,c2,rfl,by have:=HG.out; have:=HL2.out; omega,q1',q2',E0,E1,E2,m0,m1,m2⟩,X6⟩
end Go.Proofs.YtdoibgmmijhlfaaGreat
namespace Go.Proofs.YtdoibgmmijhlfaaGreat
open Go.ChangeShapes Go.WideShapes Go.ChangeAt Go.RowKit
set_option linter.unusedVariables false
theorem blks4 (w : World) (c1 : Array Value) (t1 : TypeId) (c2 : Array Value) (t2 : TypeId) (c3 : Array Value) (t3 : TypeId) (c4 : Array Value) (t4 : TypeId) :
  Ext w ((((w.alloc (.cells c1 t1)).alloc (.cells c2 t2)).alloc (.cells c3 t3)).alloc (.cells c4 t4))∧Blk ((((w.alloc (.cells c1 t1)).alloc (.cells c2 t2)).alloc (.cells c3 t3)).alloc (.cells c4 t4)) w.heap.size t1 c1 ∧
   Blk ((((w.alloc (.cells c1 t1)).alloc (.cells c2 t2)).alloc (.cells c3 t3)).alloc (.cells c4 t4)) (w.heap.size + 1) t2 c2∧Blk ((((w.alloc (.cells c1 t1)).alloc (.cells c2 t2)).alloc (.cells c3 t3)).alloc (.cells c4 t4)) (w.heap.size + 1 + 1) t3 c3 ∧
   Blk ((((w.alloc (.cells c1 t1)).alloc (.cells c2 t2)).alloc (.cells c3 t3)).alloc (.cells c4 t4)) (w.heap.size + 1 + 1 + 1) t4 c4:=by
 obtain ⟨h1,h2,h3,h4⟩:=blks3 w c1 t1 c2 t2 c3 t3
 have h:=Blk.new (((w.alloc (.cells c1 t1)).alloc (.cells c2 t2)).alloc (.cells c3 t3)) t4 c4
 rw [show (((w.alloc (.cells c1 t1)).alloc (.cells c2 t2)).alloc (.cells c3 t3)).heap.size=w.heap.size + 1 + 1 + 1 from by simp] at h
 exact ⟨ext_alloc h1 _,h2.alloc _,h3.alloc _,h4.alloc _,h⟩
theorem blk_irow {w : World} {g : Nat} {zs : List Int} (h : Blk w g 3 (zs.map (Value.int .i64)).toArray) : IRow w g zs:=⟨_,h,List.take_of_length_le (by simp)⟩
def nearP : PosM:={ cells:=[1,1,0,2,2,0,0,0,0],hand0:=[3],hand1:=[3],turn:=0,quiet:=0 }
theorem near_any (w : World) : Calls Crz.prog 8 #[] w fun e w' => ∃ v,e=.returned v∧PosOwn w' w.heap.size v nearP∧Ext w w':=by
 go_enter Crz.func8,Tryz.ntmps8
 go_wp2
 obtain ⟨x,k0,k1,k2,k3⟩:=blks4 w #[.slice (some ⟨w.heap.size + 1,0,none⟩) 9 9,.slice (some ⟨w.heap.size + 1 + 1,0,none⟩) 1 1,.slice (some ⟨w.heap.size + 1 + 1 + 1,0,none⟩) 1 1,.int .i64 0,.int .i64 0] 29 #[.int .i64 1,.int .i64 1,.int .i64 0,.int .i64 2,.int .i64 2,.int .i64 0,.int .i64 0,.int .i64 0,.int .i64 0] 3 #[.int .i64 3] 3 #[.int .i64 3] 3
 have f:=k0.cell
 refine bodyPost_ret (v:=.agg #[.slice (some ⟨w.heap.size + 1,0,none⟩) 9 9,.slice (some ⟨w.heap.size + 1 + 1,0,none⟩) 1 1,.slice (some ⟨w.heap.size + 1 + 1 + 1,0,none⟩) 1 1,.int .i64 0,.int .i64 0]) ?_ rfl ?_
 ·simp [results,Tryz.results8,go_sem,f]
 ·exact ⟨_,rfl,⟨_,9,_,1,_,1,rfl,by omega,by omega,by omega,blk_irow k1,blk_irow k2,blk_irow k3,by decide,by decide,by decide⟩,x⟩
end Go.Proofs.YtdoibgmmijhlfaaGreat
namespace Go.Proofs.YtdoibgmmijhlfaaGreat
open Go
def openB (D : List Nat) (listed : Array Bool) : Bool:=D.all fun d => !listed.getD d true
theorem openB_set {D : List Nat} {i : Nat} (h : D.contains i=false) (listed : Array Bool) : openB D (listed.setIfInBounds i true)=openB D listed:=by
 unfold openB
 apply Bool.eq_iff_iff.2
 simp only [List.all_eq_true]
 have hne : ∀ d ∈ D,i ≠ d:=fun d hd e => by subst e; simp [hd] at h
 exact ⟨fun k d hd => by rw [← getD_set_ne true (hne d hd)]; exact k d hd,fun k d hd => by rw [getD_set_ne true (hne d hd)]; exact k d hd⟩
section
variable {P : Program} {ops : Array Oper} {Q : Exit→Act→World→Prop} {md : Region.Mode} {T S : World→Prop} {D : List Nat}
def AnyK (P : Program) (md : Region.Mode) (ops : Array Oper) (Q : Exit→Act→World→Prop) (T S : World→Prop) (D : List Nat) : Nat→Array Bool→Act→World→Prop
 | 0,listed,a,w => Region.ready md ops listed=[]∧Q .normal a w
 | fuel + 1,listed,a,w =>
  (Region.ready md ops listed=[]→Q .normal a w) ∧
  ∀ i ∈ Region.ready md ops listed,wpOp P ops Q i (fun a' w' => (T w'∧(openB D (listed.setIfInBounds i true)=true→S w'))∧AnyK P md ops Q T S D fuel (listed.setIfInBounds i true) a' w') a w
theorem any_of_anyK : ∀ (fuel : Nat) (listed : Array Bool) (a : Act) (w : World),AnyK P md ops Q T S D fuel listed a w→wpAny P md ops Q fuel listed a w
 | 0,_,_,_,h => h
 | fuel + 1,_,_,_,h => ⟨h.1,fun i hi => wpOp_mono (fun a' w' h' => any_of_anyK fuel _ a' w' h'.2) (h.2 i hi)⟩
def waitsB (md : Region.Mode) (ops : Array Oper) (D : List Nat) (i : Nat) : Bool :=
 D.all fun d => match ops[d]? with
  | none => true
  | some o => o.after.any fun e => Region.binds md e && e.on == i
theorem waits_not {i j : Nat} {listed : Array Bool} (h : waitsB md ops D i=true) (hj : j ∈ Region.ready md ops listed) (hi : listed.getD i true=false) : D.contains j=false:=by
 cases hc : D.contains j
 ·rfl
 ·exfalso
  have hm : j ∈ D:=by simpa using hc
  obtain ⟨_,o,ho,hall⟩:=mem_ready.1 hj
  have h1:=List.all_eq_true.1 h j hm
  simp only [ho] at h1
  obtain ⟨e,he,hb⟩:=Array.any_eq_true'.1 h1
  simp only [Bool.and_eq_true,beq_iff_eq] at hb
  have h2:=hall e he hb.1
  rw [hb.2] at h2
  rcases Nat.lt_or_ge i listed.size with h' | h'
  ·simp [h'] at hi h2; rw [hi] at h2; cases h2
  ·simp [Array.getElem?_eq_none h'] at hi
theorem anyK_first {i : Nat} {oi : Oper} {v : Value} (s : Bool) (hi : ops[i]? = some oi) (hsel : ∀ (j : Nat) (o : Oper) cs b,ops[j]? = some o→o.op ≠ .select cs b)
  (hQ : ∀ c a w,Q (.panic c) (a.put oi.dst v) w→Q (.panic c) a w) (hiD : D.contains i=false) (hW : s=true→waitsB md ops D i=true) :
  ∀ (fuel : Nat) (listed : Array Bool) (a : Act) (w : World),
   (∀ j oj,ops[j]? = some oj→j ≠ i→listed.getD j true=false→(∀ e ∈ oj.after,Region.binds md e=true→e.on ≠ i)→oi.apart ops oj=true) →
   i ∈ Region.ready md ops listed→YieldsIf P ops (fun w => T w∧(s=true→S w)) oi v a→(T w∧(s=true→S w))→(T w∧(openB D listed=true→S w))→(s=true→openB D listed=true) →
   AnyK P md ops Q T S D fuel (listed.setIfInBounds i true) (a.put oi.dst v) w→AnyK P md ops Q T S D (fuel + 1) listed a w:=by
 intro fuel
 induction fuel with
 | zero =>
  intro listed a w _ hr hy hU hTS hC H
  refine ⟨fun h => (by rw [h] at hr; cases hr),fun j hj => ?_⟩
  by_cases hji : j=i
  ·subst hji
   refine YieldsIf.wpOp (S:=fun w => T w∧(s=true→S w)) hi hy hU ⟨⟨hTS.1,?_⟩,H⟩
   rw [openB_set hiD]
   exact hTS.2
  ·have:=ready_mono hj hji
   rw [H.1] at this
   cases this
 | succ fuel ih =>
  intro listed a w hfree hr hy hU hTS hC H
  refine ⟨fun h => (by rw [h] at hr; cases hr),fun j hj => ?_⟩
  by_cases hji : j=i
  ·subst hji
   refine YieldsIf.wpOp (S:=fun w => T w∧(s=true→S w)) hi hy hU ⟨⟨hTS.1,?_⟩,H⟩
   rw [openB_set hiD]
   exact hTS.2
  ·have h1:=H.2 j (ready_mono hj hji)
   have hi0:=(mem_ready.1 hr).1
   have hjD : s=true→D.contains j=false:=fun h => waits_not (hW h) hj hi0
   obtain ⟨hjun,oj,hoj,hall⟩:=mem_ready.1 hj
   have hnot : ∀ e ∈ oj.after,Region.binds md e=true→e.on ≠ i:=fun e he hb heq => by
    have h1:=hall e he hb
    rw [heq] at h1
    rcases Nat.lt_or_ge i listed.size with h' | h'
    ·simp [h'] at hi0 h1; rw [hi0] at h1; cases h1
    ·simp [Array.getElem?_eq_none h'] at h1
   have h2:=wpOp_putIf hoj (hfree j oj hoj hji hjun hnot) (fun cs b => hsel i oi cs b hi) (fun cs b => hsel j oj cs b hoj) hQ hy h1
   have hfree' : ∀ k ok,ops[k]? = some ok→k ≠ i→(listed.setIfInBounds j true).getD k true=false →
     (∀ e ∈ ok.after,Region.binds md e=true→e.on ≠ i)→oi.apart ops ok=true:=fun k ok hk hki hun hno => by
    refine hfree k ok hk hki ?_ hno
    by_cases hjk : j=k
    ·subst hjk; exact hjun
    ·rw [getD_set_ne true hjk] at hun; exact hun
   have hcm : (listed.setIfInBounds i true).setIfInBounds j true=(listed.setIfInBounds j true).setIfInBounds i true:=Array.setIfInBounds_comm _ _ (Ne.symm hji)
   refine wpOp_mono (fun a' w' h3 => ?_) h2
   obtain ⟨g1,⟨g2,g3⟩,g4⟩:=h3
   rw [hcm] at g3 g4
   rw [openB_set hiD] at g3
   have hC' : s=true→openB D (listed.setIfInBounds j true)=true:=fun h => by rw [openB_set (hjD h)]; exact hC h
   exact ⟨⟨g2,g3⟩,ih (listed.setIfInBounds j true) a' w' hfree' (ready_mono hr (Ne.symm hji)) g1 ⟨g2,fun h => g3 (hC' h)⟩ ⟨g2,g3⟩ hC' g4⟩
theorem anyK_take (i : Nat) {oi : Oper} {v : Value} {fuel : Nat} {listed : Array Bool} {a : Act} {w : World} (hi : ops[i]? = some oi)
  (hs : Region.noSelect ops=true) (hf : Region.free md ops listed i=true) (hr : (Region.ready md ops listed).contains i=true) (hiD : D.contains i=false)
  (hQ : ∀ c a w,Q (.panic c) (a.put oi.dst v) w→Q (.panic c) a w) (hw : Region.wanted oi (yielded ops a.tmps)=true) (hT : T w) (hS : openB D listed=true→S w) (hy : ∀ w,T w→(execOp a.eval oi).run P w=.ok (.value v) w)
  (h : AnyK P md ops Q T S D fuel (listed.setIfInBounds i true) (a.put oi.dst v) w) : AnyK P md ops Q T S D (fuel + 1) listed a w :=
 anyK_first false hi (Region.noSelect_spec hs) hQ hiD (fun h => by cases h) fuel listed a w (Region.free_spec hi hf) (by simpa using hr) (.inl ⟨hw,fun w h => hy w h.1⟩) ⟨hT,fun h => by cases h⟩ ⟨hT,hS⟩ (fun h => by cases h) h
theorem anyK_on {fuel : Nat} {listed : Array Bool} {a : Act} {w : World} (rs : List Nat) (hr : Region.ready md ops listed=rs) (hne : rs ≠ [])
  (h : ∀ i ∈ rs,wpOp P ops Q i (fun a' w' => (T w'∧(openB D (listed.setIfInBounds i true)=true→S w'))∧AnyK P md ops Q T S D fuel (listed.setIfInBounds i true) a' w') a w) : AnyK P md ops Q T S D (fuel + 1) listed a w :=
 ⟨fun h0 => absurd (hr ▸ h0) hne,hr ▸ h⟩
theorem anyK_on1 {fuel : Nat} {listed : Array Bool} {a : Act} {w : World} (i : Nat) (hr : Region.ready md ops listed=[i])
  (h : wpOp P ops Q i (fun a' w' => (T w'∧(openB D (listed.setIfInBounds i true)=true→S w'))∧AnyK P md ops Q T S D fuel (listed.setIfInBounds i true) a' w') a w) : AnyK P md ops Q T S D (fuel + 1) listed a w :=
 anyK_on [i] hr (by simp) (fun j hj => by
  obtain rfl : j=i:=by simpa using hj
  exact h)
theorem anyK_on2 {fuel : Nat} {listed : Array Bool} {a : Act} {w : World} (i j : Nat) (hr : Region.ready md ops listed=[i,j])
  (h : wpOp P ops Q i (fun a' w' => (T w'∧(openB D (listed.setIfInBounds i true)=true→S w'))∧AnyK P md ops Q T S D fuel (listed.setIfInBounds i true) a' w') a w)
  (h2 : wpOp P ops Q j (fun a' w' => (T w'∧(openB D (listed.setIfInBounds j true)=true→S w'))∧AnyK P md ops Q T S D fuel (listed.setIfInBounds j true) a' w') a w) : AnyK P md ops Q T S D (fuel + 1) listed a w :=
 anyK_on [i,j] hr (by simp) (fun k hk => by
  rcases List.mem_cons.1 hk with rfl | hk
  ·exact h
  ·obtain rfl : k=j:=by simpa using hk
   exact h2)
theorem anyK_one {fuel : Nat} {listed : Array Bool} {a : Act} {w : World} (i : Nat) {o : Oper} (ho : ops[i]? = some o)
  (h : ∀ K' : Act→World→Prop,Shut (∀ a w,T w→(openB D (listed.setIfInBounds i true)=true→S w)→AnyK P md ops Q T S D fuel (listed.setIfInBounds i true) a w→K' a w)→if Region.wanted o (yielded ops a.tmps)=true then Oper.wp P o a w K' Q else K' (a.put o.dst undef) w) :
  wpOp P ops Q i (fun a' w' => (T w'∧(openB D (listed.setIfInBounds i true)=true→S w'))∧AnyK P md ops Q T S D fuel (listed.setIfInBounds i true) a' w') a w :=
 wpOp_step ho (fun K' hK => h K' (fun a w hT hS hW => hK a w ⟨⟨hT,hS⟩,hW⟩))
theorem anyK_done {listed : Array Bool} {a : Act} {w : World} (hr : Region.ready md ops listed=[]) (h : Q .normal a w) : ∀ fuel,AnyK P md ops Q T S D fuel listed a w
 | 0 => ⟨hr,h⟩
 | _ + 1 => ⟨fun _ => h,by rw [hr]; simp⟩
theorem region_K {id : Nat} {a : Act} {w : World} (T S : World→Prop) (D : List Nat) (hm : P.follows .mixedOrders=true)
  (h : AnyK P .any ops Q T S D ops.size (Array.replicate ops.size false) a w.drew) : (Code.region id ops true).wp P Q a w :=
 wp_region_any hm (any_of_anyK _ _ _ _ h)
end
end Go.Proofs.YtdoibgmmijhlfaaGreat
namespace Go.Proofs.YtdoibgmmijhlfaaGreat
open Go
section
variable {P : Program} {Q : Exit→Act→World→Prop} {md : Region.Mode} {T S : World→Prop} {D : List Nat}
theorem tk (i : Nat) {l : List Oper} {oi : Oper} {v : Value} {fuel : Nat} {listed : Array Bool} {a a' : Act} {w : World} (hT : T w) (hS : openB D listed=true→S w)
  (h : AnyK P md l.toArray Q T S D fuel (listed.setIfInBounds i true) a' w) (hi : l[i]? = some oi:=by rfl)
  (hy : ∀ w,T w→(execOp a.eval oi).run P w=.ok (.value v) w:=by intro W hW; go_simp; first | done | with_reducible rfl)
  (hp : a.put oi.dst v=a':=by first | (simp only [Act.put,List.setIfInBounds_toArray,List.set_cons_zero,List.set_cons_succ]; done) | (simp only [Act.put,List.setIfInBounds_toArray,List.set_cons_zero,List.set_cons_succ]; rfl) | rfl)
  (hs : Region.noSelect l.toArray=true:=by kernel_rfl) (hf : Region.free md l.toArray listed i=true:=by kernel_rfl) (hr : (Region.ready md l.toArray listed).contains i=true:=by kernel_rfl) (hiD : D.contains i=false:=by kernel_rfl)
  (hQ : ∀ c a w,Q (.panic c) (a.put oi.dst v) w→Q (.panic c) a w:=by exact fun _ _ _ h => h) (hw : Region.wanted oi (yielded l.toArray a.tmps)=true:=by rfl) : AnyK P md l.toArray Q T S D (fuel + 1) listed a w :=
 anyK_take i (by simpa using hi) hs hf hr hiD hQ hw hT hS hy (hp ▸ h)
theorem tl (i : Nat) {l : List Oper} {oi : Oper} {v : Value} {fuel : Nat} {listed : Array Bool} {a a' : Act} {w : World} (hT : T w) (hS : openB D listed=true→S w)
  (hy : ∀ w,T w→(execOp a.eval oi).run P w=.ok (.value v) w) (h : AnyK P md l.toArray Q T S D fuel (listed.setIfInBounds i true) a' w) (hi : l[i]? = some oi:=by rfl)
  (hp : a.put oi.dst v=a':=by first | (simp only [Act.put,List.setIfInBounds_toArray,List.set_cons_zero,List.set_cons_succ]; done) | (simp only [Act.put,List.setIfInBounds_toArray,List.set_cons_zero,List.set_cons_succ]; rfl) | rfl)
  (hs : Region.noSelect l.toArray=true:=by kernel_rfl) (hf : Region.free md l.toArray listed i=true:=by kernel_rfl) (hr : (Region.ready md l.toArray listed).contains i=true:=by kernel_rfl) (hiD : D.contains i=false:=by kernel_rfl)
  (hQ : ∀ c a w,Q (.panic c) (a.put oi.dst v) w→Q (.panic c) a w:=by exact fun _ _ _ h => h) (hw : Region.wanted oi (yielded l.toArray a.tmps)=true:=by rfl) : AnyK P md l.toArray Q T S D (fuel + 1) listed a w :=
 anyK_take i (by simpa using hi) hs hf hr hiD hQ hw hT hS hy (hp ▸ h)
theorem tw {l : List Oper} {fuel : Nat} {listed : Array Bool} {a : Act} {w : World} (i : Nat) {o : Oper}
  (h : ∀ K' : Act→World→Prop,Shut (∀ a w,T w→(openB D (listed.setIfInBounds i true)=true→S w)→AnyK P md l.toArray Q T S D fuel (listed.setIfInBounds i true) a w→K' a w)→if Region.wanted o (yielded l.toArray a.tmps)=true then Oper.wp P o a w K' Q else K' (a.put o.dst undef) w) (ho : l[i]? = some o:=by rfl) :
  wpOp P l.toArray Q i (fun a' w' => (T w'∧(openB D (listed.setIfInBounds i true)=true→S w'))∧AnyK P md l.toArray Q T S D fuel (listed.setIfInBounds i true) a' w') a w :=
 anyK_one i (by simpa using ho) h
end
end Go.Proofs.YtdoibgmmijhlfaaGreat
namespace Go.Proofs.YtdoibgmmijhlfaaGreat
open Go.ChangeShapes Go.WideShapes Go.ChangeAt Go.RowKit
set_option linter.unusedVariables false
def threeR : RulesM:={ name:=⟨#[84,73,67]⟩,width:=3,height:=3,pieces:=[⟨65,5,0,[]⟩],start:=[0,0,0,0,0,0,0,0,0],falls:=false,keeps:=false,ends:=[⟨0,0,3,false⟩],blocked:=2,quiet:=0,rept:=0 }
theorem make9 (W : World) : (Instr.makeSlice 23 (.int .i64 9) (.int .i64 9)).run Crz.prog W=.ok (.slice (some ⟨W.heap.size,0,none⟩) 9 9) (W.alloc (.cells #[.int .i64 0,.int .i64 0,.int .i64 0,.int .i64 0,.int .i64 0,.int .i64 0,.int .i64 0,.int .i64 0,.int .i64 0] 3)):=by kernel_rfl
theorem three_any (w : World) : Calls Crz.prog 7 #[] w fun e w' => ∃ v,e=.returned v∧RulesAt w' v threeR∧Ext w w':=by
 have hmk:=make9
 go_enter Crz.func7,Tryz.ntmps7
 go_wp2
 have kR:=Blk.new w 26 #[.string ⟨#[84,73,67]⟩,.int .i64 3,.int .i64 3,.slice (some ⟨w.heap.size + 1,0,none⟩) 1 1,.slice (some ⟨w.heap.size + 1 + 1,0,none⟩) 9 9,.bool false,.bool false,.slice (some ⟨w.heap.size + 1 + 1 + 1,0,none⟩) 1 1,.int .i64 2,.int .i64 0,.int .i64 0]
 have xR : Ext w (w.alloc (.cells #[.string ⟨#[84,73,67]⟩,.int .i64 3,.int .i64 3,.slice (some ⟨w.heap.size + 1,0,none⟩) 1 1,.slice (some ⟨w.heap.size + 1 + 1,0,none⟩) 9 9,.bool false,.bool false,.slice (some ⟨w.heap.size + 1 + 1 + 1,0,none⟩) 1 1,.int .i64 2,.int .i64 0,.int .i64 0] 26)):=ext_alloc (Below.refl _ _) _
 have sR : (w.alloc (.cells #[.string ⟨#[84,73,67]⟩,.int .i64 3,.int .i64 3,.slice (some ⟨w.heap.size + 1,0,none⟩) 1 1,.slice (some ⟨w.heap.size + 1 + 1,0,none⟩) 9 9,.bool false,.bool false,.slice (some ⟨w.heap.size + 1 + 1 + 1,0,none⟩) 1 1,.int .i64 2,.int .i64 0,.int .i64 0] 26)).heap.size=w.heap.size + 1:=by simp
 generalize w.alloc (.cells #[.string ⟨#[84,73,67]⟩,.int .i64 3,.int .i64 3,.slice (some ⟨w.heap.size + 1,0,none⟩) 1 1,.slice (some ⟨w.heap.size + 1 + 1,0,none⟩) 9 9,.bool false,.bool false,.slice (some ⟨w.heap.size + 1 + 1 + 1,0,none⟩) 1 1,.int .i64 2,.int .i64 0,.int .i64 0] 26)=w1 at *
 have cP:=cellsAt_new w1 73 [.int .u8 65,.int .i64 5,.int .i64 0,.slice none 0 0]
 rw [sR] at cP
 have kR2:=kR.alloc (.cells #[.int .u8 65,.int .i64 5,.int .i64 0,.slice none 0 0] 73)
 have xR2:=ext_alloc xR (.cells #[.int .u8 65,.int .i64 5,.int .i64 0,.slice none 0 0] 73)
 have sP : (w1.alloc (.cells #[.int .u8 65,.int .i64 5,.int .i64 0,.slice none 0 0] 73)).heap.size=w.heap.size + 1 + 1:=by simp [sR]
 clear kR xR sR
 generalize w1.alloc (.cells #[.int .u8 65,.int .i64 5,.int .i64 0,.slice none 0 0] 73)=w2 at *
 have cS:=cellsAt_new w2 3 [.int .i64 0,.int .i64 0,.int .i64 0,.int .i64 0,.int .i64 0,.int .i64 0,.int .i64 0,.int .i64 0,.int .i64 0]
 rw [sP] at cS
 have kR3:=kR2.alloc (.cells #[.int .i64 0,.int .i64 0,.int .i64 0,.int .i64 0,.int .i64 0,.int .i64 0,.int .i64 0,.int .i64 0,.int .i64 0] 3)
 have xR3:=ext_alloc xR2 (.cells #[.int .i64 0,.int .i64 0,.int .i64 0,.int .i64 0,.int .i64 0,.int .i64 0,.int .i64 0,.int .i64 0,.int .i64 0] 3)
 have cP3:=cP.ext (ext_alloc (Below.refl _ _) (.cells #[.int .i64 0,.int .i64 0,.int .i64 0,.int .i64 0,.int .i64 0,.int .i64 0,.int .i64 0,.int .i64 0,.int .i64 0] 3))
 have sS : (w2.alloc (.cells #[.int .i64 0,.int .i64 0,.int .i64 0,.int .i64 0,.int .i64 0,.int .i64 0,.int .i64 0,.int .i64 0,.int .i64 0] 3)).heap.size=w.heap.size + 1 + 1 + 1:=by simp [sP]
 clear kR2 xR2 cP sP
 generalize w2.alloc (.cells #[.int .i64 0,.int .i64 0,.int .i64 0,.int .i64 0,.int .i64 0,.int .i64 0,.int .i64 0,.int .i64 0,.int .i64 0] 3)=w3 at *
 have cE:=cellsAt_new w3 75 [.int .i64 0,.int .i64 0,.int .i64 3,.bool false]
 rw [sS] at cE
 have kR4:=kR3.alloc (.cells #[.int .i64 0,.int .i64 0,.int .i64 3,.bool false] 75)
 have xR4:=ext_alloc xR3 (.cells #[.int .i64 0,.int .i64 0,.int .i64 3,.bool false] 75)
 have cP4:=cP3.ext (ext_alloc (Below.refl _ _) (.cells #[.int .i64 0,.int .i64 0,.int .i64 3,.bool false] 75))
 have cS4:=cS.ext (ext_alloc (Below.refl _ _) (.cells #[.int .i64 0,.int .i64 0,.int .i64 3,.bool false] 75))
 clear kR3 xR3 cP3 cS sS
 generalize w3.alloc (.cells #[.int .i64 0,.int .i64 0,.int .i64 3,.bool false] 75)=w4 at *
 have f:=kR4.cell
 refine bodyPost_ret (v:=.agg #[.string ⟨#[84,73,67]⟩,.int .i64 3,.int .i64 3,.slice (some ⟨w.heap.size + 1,0,none⟩) 1 1,.slice (some ⟨w.heap.size + 1 + 1,0,none⟩) 9 9,.bool false,.bool false,.slice (some ⟨w.heap.size + 1 + 1 + 1,0,none⟩) 1 1,.int .i64 2,.int .i64 0,.int .i64 0]) ?_ rfl ?_
 ·simp [results,Tryz.results7,go_sem,f]
 ·refine ⟨_,rfl,⟨_,1,_,9,_,1,rfl,⟨[[.int .u8 65,.int .i64 5,.int .i64 0,.slice none 0 0]],by simpa using cP4,rfl,fun i p l a b => ?_⟩,cells_ints cS4,cE,by decide,by decide,by decide,by decide⟩,xR4⟩
  match i,a,b with
  | 0,a,b =>
   simp [threeR] at a b
   subst a; subst b
   exact ⟨none,0,rfl,cellsAt_nil _ _⟩
  | i + 1,a,b => simp [threeR] at a
end Go.Proofs.YtdoibgmmijhlfaaGreat
namespace Go.Proofs.YtdoibgmmijhlfaaGreat
open Go.ChangeShapes Go.WideShapes Go.ChangeAt Go.RowKit
theorem fine1_any (z : Int) (w : World) :
  Calls Crz.prog 48 #[.int .i64 z] w fun e w' => e=.returned (.bool (z != 0))∧w=w':=by
 go_enter Crz.func48,Tryz.ntmps48
 go_wp2
 go_ret
 exact ⟨rfl,rfl⟩
theorem fineIdx_no (A : Option Addr) (n c : Nat) (zs : List Int) (w : World) (hn : zs.length=n) (hm : n≤9223372036854775807)
  (hz : IntsAt w A zs) (hall : ∀ i,i < n→zs.getD i 0=0) :
  Calls Crz.prog 78 #[.slice A n c,.func (.func 48) #[] #[]] w fun e w' => e=.returned (.int .i64 (-1))∧w=w':=by
 subst hn
 go_enter Crz.func78,Tryz.ntmps78
 go_wp2
 go_loop [8] (fun i => ∃ k : Nat,k≤zs.length∧i=.int .i64 k) (fun i => zs.length - (intOf i).toNat)
 case atStart => exact ⟨0,Nat.zero_le _,rfl⟩
 case round =>
  obtain ⟨k,hk,rfl⟩:=hrel
  by_cases hlt : k < zs.length
  ·obtain ⟨b,o,rfl,hc⟩:=hz k hlt
   rw [hall k hlt] at hc
   clear hall hz
   go_wp2_with (go_at_call 48; refine (fine1_any _ _).mono ?_; rintro e w' ⟨rfl,rfl⟩)
   go_round
   case rel => exact ⟨k + 1,by omega,by go_num⟩
   case measure => simp [intOf]; omega
  ·clear hall hz
   go_wp2
   go_ret
   exact ⟨rfl,rfl⟩
theorem fineIdx_yes (A : Option Addr) (n c j : Nat) (zs : List Int) (w : World) (hn : zs.length=n) (hm : n≤9223372036854775807)
  (hz : IntsAt w A zs) (hj : j < n) (hbad : zs.getD j 0 ≠ 0) :
  Calls Crz.prog 78 #[.slice A n c,.func (.func 48) #[] #[]] w fun e w' => (∃ i : Nat,e=.returned (.int .i64 i))∧w=w':=by
 subst hn
 have HB:=hide hbad
 clear hbad
 go_enter Crz.func78,Tryz.ntmps78
 go_wp2
 go_loop [8] (fun i => ∃ k : Nat,k≤j∧i=.int .i64 k) (fun i => zs.length - (intOf i).toNat)
 case atStart => exact ⟨0,Nat.zero_le _,rfl⟩
 case round =>
  obtain ⟨k,hk,rfl⟩:=hrel
  have hlt : k < zs.length:=by omega
  obtain ⟨b,o,rfl,hc⟩:=hz k hlt
  clear hz
  by_cases h0 : zs.getD k 0=0
  ·have hkj : k < j:=by
    rcases Nat.lt_or_ge k j with hlt | hge
    ·exact hlt
    ·obtain rfl : k=j:=by omega
     exact absurd h0 HB.out
   rw [h0] at hc
   clear h0 HB
   go_wp2_with (go_at_call 48; refine (fine1_any _ _).mono ?_; rintro e w' ⟨rfl,rfl⟩)
   go_round
   case rel => exact ⟨k + 1,by omega,by go_num⟩
   case measure => simp [intOf]; omega
  ·have h0' : (zs.getD k 0 != 0)=true:=by simpa using h0
   clear h0 HB
   generalize zs.getD k 0=z at *
   go_wp2_with (go_at_call 48; refine (fine1_any _ _).mono ?_; rintro e w' ⟨rfl,rfl⟩)
   go_ret
   exact ⟨⟨k,rfl⟩,rfl⟩
def allZero (zs : List Int) : Bool:=zs.all (· == 0)
theorem fine_any (A : Option Addr) (n c : Nat) (zs : List Int) (w : World) (hn : zs.length=n) (hm : n≤9223372036854775807) (hz : IntsAt w A zs) :
  Calls Crz.prog 17 #[.slice A n c] w fun e w' => e=.returned (.bool (allZero zs))∧w=w':=by
 cases h : allZero zs
 ·obtain ⟨z,hz1,hz2⟩ : ∃ z ∈ zs,z ≠ 0:=by
   unfold allZero at h
   rw [List.all_eq_false] at h
   obtain ⟨z,h1,h2⟩:=h
   exact ⟨z,h1,by simpa using h2⟩
  obtain ⟨j,hj,rfl⟩:=List.mem_iff_getElem.1 hz1
  have hbad : zs.getD j 0 ≠ 0:=by simpa [hj] using hz2
  clear h hz1 hz2
  go_enter Crz.func17,Tryz.ntmps17
  go_wp2_with (first | (go_at_call 78; refine (fineIdx_yes A n c j zs _ hn hm hz (by omega) hbad).mono ?_; rintro e w' ⟨⟨i,rfl⟩,rfl⟩) | (go_at_call 47; go_in))
  go_ret
  exact ⟨rfl,rfl⟩
 ·have hall : ∀ i,i < n→zs.getD i 0=0:=by
   intro i hi
   unfold allZero at h
   rw [List.all_eq_true] at h
   have:=h (zs[i]'(by omega)) (List.getElem_mem _)
   simpa [hn,hi] using this
  clear h
  go_enter Crz.func17,Tryz.ntmps17
  go_wp2_with (first | (go_at_call 78; refine (fineIdx_no A n c zs _ hn hm hz hall).mono ?_; rintro e w' ⟨rfl,rfl⟩) | (go_at_call 47; go_in))
  go_ret
  exact ⟨rfl,rfl⟩
end Go.Proofs.YtdoibgmmijhlfaaGreat
namespace Go.Proofs.YtdoibgmmijhlfaaGreat
open Go.ChangeShapes Go.WideShapes Go.ChangeAt Go.RowKit
set_option linter.unusedVariables false
theorem put_any (s : Int) (w : World) : Calls Crz.prog 9 #[.int .i64 s] w fun e w' => e=.returned (.agg #[.int .i64 (-1),.int .i64 s,.int .i64 0])∧Ext w w':=by
 go_enter Crz.func9,Tryz.ntmps9
 go_wp2
 have k:=Blk.new w 31 #[.int .i64 (-1),.int .i64 s,.int .i64 0]
 have f:=k.cell
 refine bodyPost_ret (v:=.agg #[.int .i64 (-1),.int .i64 s,.int .i64 0]) ?_ rfl ?_
 ·simp [results,Tryz.results9,go_sem,f]
 ·exact ⟨rfl,ext_alloc (Below.refl _ _) _⟩
theorem EqInts_yes (A B : Option Addr) (n c d : Nat) (xs : List Int) (w : World) (hx : xs.length=n) (hm : n≤9223372036854775807)
  (hA : IntsAt w A xs) (hB : IntsAt w B xs) :
  Calls Crz.prog 18 #[.slice A n c,.slice B n d] w fun e w' => e=.returned (.bool true)∧∃ q,w'=w.drewN q:=by
 have HX:=hide hx
 have hx' : n≤xs.length:=by omega
 clear hx
 go_enter Crz.func18,Tryz.ntmps18
 go_wp2
 go_loopw [13] (fun i wr => ∃ k q : Nat,k≤n∧i=.int .i64 k∧wr=w.drewN q) (fun i _ => n - (intOf i).toNat)
 case atStart => exact ⟨0,0,Nat.zero_le _,rfl,rfl⟩
 case round =>
  obtain ⟨k,q,hk,rfl,rfl⟩:=hrel
  by_cases hlt : k < n
  ·obtain ⟨b,o,rfl,hc⟩:=hA k (by omega)
   obtain ⟨b',o',rfl,hc'⟩:=hB k (by omega)
   clear hA hB
   generalize xs.getD k 0=z at *
   go_wp2
   go_quiet (fail)
   go_wp2
   go_roundw
   case rel => exact ⟨k + 1,_,by omega,by go_num,rfl⟩
   case measure => simp [intOf]; omega
  ·clear hA hB
   go_wp2
   go_ret
   exact ⟨rfl,_,rfl⟩
end Go.Proofs.YtdoibgmmijhlfaaGreat
