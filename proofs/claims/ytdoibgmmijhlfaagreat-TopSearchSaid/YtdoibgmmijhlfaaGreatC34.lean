/- MiniW MiniF PerftW3 -/
import Derived.Test.YtdoibgmmijhlfaaGreatC33
namespace Go.Proofs.YtdoibgmmijhlfaaGreat
open Go.ChangeShapes Go.WideShapes Go.ChangeAt Go.RowKit Go.Shelf
set_option linter.unusedVariables false
set_option linter.unusedSimpArgs false
theorem Nearer_any(n:Int)(w:World)(h0:-2000≤n)(h1:n≤2000):Calls Crz.prog 29 #[.int .i64 n] w fun e w'=>e=.returned (.int .i64 (nearM n))∧Ext w w':=by
 by_cases hp:0<n
 ·have t0:decide (0<n)=true:=by simpa using hp
  have hw:IntKind.i64.wrap (n-1)=n-1:=by rw [IntKind.wrap_i64];omega
  rw [show nearM n=n-1 from if_pos hp]
  clear hp
  go_enter Crz.func29,Tryz.ntmps29
  go_wp2
  go_ret
  exact⟨rfl,Below.refl _ _⟩
 ·have t0:decide (0<n)=false:=by simpa using hp
  by_cases hn:n<0
  ·have t1:decide (n<0)=true:=by simpa using hn
   have hw:IntKind.i64.wrap (n+1)=n+1:=by rw [IntKind.wrap_i64];omega
   rw [show nearM n=n+1 from (if_neg hp).trans (if_pos hn)]
   clear hp hn
   go_enter Crz.func29,Tryz.ntmps29
   go_wp2
   go_ret
   exact⟨rfl,Below.refl _ _⟩
  ·have t1:decide (n<0)=false:=by simpa using hn
   rw [show nearM n=0 from (if_neg hp).trans (if_neg hn)]
   clear hp hn
   go_enter Crz.func29,Tryz.ntmps29
   go_wp2
   go_ret
   exact⟨rfl,Below.refl _ _⟩
set_option maxHeartbeats 2000000 in
set_option maxRecDepth 100000 in
theorem Over_any(P:PosM)(u:Value)(x:Int)(w:World)(hP:PA w u P)(hT:P.turn=0∨P.turn=1):Calls Crz.prog 73 #[u,.int .i64 x] w fun e w'=>e=.returned (.int .i64 (overM P x))∧Ext w w':=by
 obtain⟨cA,cc,aA,ac,bA,bc,rfl,-⟩:=hP
 obtain⟨x1,k1⟩:=blks1 w #[.slice cA P.cells.length cc,.slice aA P.hand0.length ac,.slice bA P.hand1.length bc,.int .i64 P.turn,.int .i64 P.quiet] 29
 have HX:=hide x1
 have f1:=k1.cell
 clear x1 k1
 have hw1:IntKind.i64.wrap (1+P.turn)=1+P.turn:=by rw [IntKind.wrap_i64];omega
 have hw2:IntKind.i64.wrap (2-P.turn)=2-P.turn:=by rw [IntKind.wrap_i64];omega
 clear hT
 by_cases hp:x=1+P.turn
 ·have t0:(x == 1+P.turn)=true:=by simpa using hp
  rw [show overM P x=1000 from if_pos hp]
  clear hp
  go_enter Crz.func73,Tryz.ntmps73
  go_wp2
  go_ret
  exact⟨rfl,HX.out⟩
 ·have t0:(x == 1+P.turn)=false:=by simpa using hp
  by_cases hn:x=2-P.turn
  ·have t1:(x == 2-P.turn)=true:=by simpa using hn
   rw [show overM P x=-1000 from (if_neg hp).trans (if_pos hn)]
   clear hp hn
   go_enter Crz.func73,Tryz.ntmps73
   go_wp2
   go_ret
   exact⟨rfl,HX.out⟩
  ·have t1:(x == 2-P.turn)=false:=by simpa using hn
   rw [show overM P x=0 from (if_neg hp).trans (if_neg hn)]
   clear hp hn
   go_enter Crz.func73,Tryz.ntmps73
   go_wp2
   go_ret
   exact⟨rfl,HX.out⟩
def OfAt(R:RM)(d:Nat):Prop:=∀ (P:PosM) (v u:Value) (D:Int) (w:World),D=d→Sound R P→RA w v R→PA w u P→Calls Crz.prog 43 #[v,u,.int .i64 D] w fun e w'=>e=.returned (.int .i64 (ofM R d P))∧Ext w w'
def FirstAt(R:RM)(d:Nat):Prop:=∀ (P:PosM) (v u:Value) (D:Int) (w:World),D=d+1→Sound R P→RA w v R→PA w u P→Calls Crz.prog 45 #[v,u,.int .i64 D] w fun e w'=>e=.returned (.tuple #[.agg #[.int .i64 (firstM R d P).1.src,.int .i64 (firstM R d P).1.dst,.int .i64 (firstM R d P).1.piece],.int .i64 (firstM R d P).2])∧Ext w w'
set_option maxHeartbeats 2000000 in
set_option maxRecDepth 100000 in
theorem Of_core(R:RM)(hV:Valid R)(d:Nat)(hF:∀ k,d=k+1→FirstAt R k):OfAt R d:=by
 intro P v u D w hD hS hR hP
 have HF:=hide (fun k (hk:d=k+1) W (hW:Ext w W)=>hF k hk P v u D W (by omega) hS (hR.ext hW) (hP.ext hW))
 have HRS:=hide (fun W (hW:Ext w W)=>Result_any R P v u W (hR.ext hW) (hP.ext hW) hV hS)
 have HOV:=hide (fun W (hW:Ext w W)=>Over_any P u (rM R P) W (hP.ext hW) hS.turn)
 obtain⟨pA,pc,sA,sc,eA,ec,rfl,-⟩:=hR
 obtain⟨cA,cc,aA,ac,bA,bc,rfl,-⟩:=hP
 obtain⟨x1,k1,k2⟩:=blks2 w #[.string R.name,.int .i64 R.width,.int .i64 R.height,.slice pA R.pieces.length pc,.slice sA R.start.length sc,.bool R.falls,.bool R.keeps,.slice eA R.ends.length ec,.int .i64 R.blocked,.int .i64 R.quiet,.int .i64 R.rept] 26 #[.slice cA P.cells.length cc,.slice aA P.hand0.length ac,.slice bA P.hand1.length bc,.int .i64 P.turn,.int .i64 P.quiet] 29
 have HX:=hide x1
 have K1:=hide k1
 have K2:=hide k2
 clear x1 k1 k2
 have f1:=K1.out.cell
 have f2:=K2.out.cell
 by_cases hz:rM R P=0
 ·rw [hz] at HRS
  rcases d with _ | k
  ·obtain rfl:D=0:=by omega
   rw [show ofM R 0 P=0 from if_pos hz]
   clear hz hF HF HOV hS hV hD
   go_enter Crz.func43,Tryz.ntmps43
   go_wp2_with fail
   refine(HRS.out _ HX.out).mono ?_
   rintro e w2 ⟨rfl,x2⟩
   have X2:=hide (qT HX.out x2)
   clear f1 f2 x2
   go_wp2
   go_ret
   exact⟨rfl,X2.out⟩
  ·have HF2:=hide (HF.out k rfl)
   have HE:=hide (first_score hz k)
   have t0:(D == 0)=false:=by simp;omega
   clear hz hF HF HOV hS hV
   generalize ofM R (k+1) P=z at *
   generalize firstM R k P=y at *
   clear hD
   go_enter Crz.func43,Tryz.ntmps43
   go_wp2_with fail
   refine(HRS.out _ HX.out).mono ?_
   rintro e w2 ⟨rfl,x2⟩
   have X2:=hide (qT HX.out x2)
   have g1:=(K1.out.ext x2).cell
   have g2:=(K2.out.ext x2).cell
   clear f1 f2 x2
   go_wp2_with fail
   refine(HF2.out _ X2.out).mono ?_
   rintro e w3 ⟨rfl,x3⟩
   have X3:=hide (qT X2.out x3)
   clear g1 g2 x3
   go_wp2
   go_ret
   exact⟨by rw [HE.out];rfl,qA X3.out _⟩
 ·rw [show ofM R d P=overM P (rM R P) from of_over hz d]
  have t0:(rM R P != 0)=true:=by simpa using hz
  clear hz hF HF hS hV hD
  generalize overM P (rM R P)=y at *
  generalize rM R P=z at *
  go_enter Crz.func43,Tryz.ntmps43
  go_wp2_with fail
  refine(HRS.out _ HX.out).mono ?_
  rintro e w2 ⟨rfl,x2⟩
  have X2:=hide (qT HX.out x2)
  have g1:=(K1.out.ext x2).cell
  have g2:=(K2.out.ext x2).cell
  clear f1 f2 x2
  go_wp2_with fail
  refine(HOV.out _ X2.out).mono ?_
  rintro e w3 ⟨rfl,x3⟩
  have X3:=hide (qT X2.out x3)
  clear g1 g2 x3
  go_wp2
  go_ret
  exact⟨rfl,X3.out⟩
theorem bestL_take{f:MM→Int}{a:MM×Int}{L:List MM}{k:Nat}{m:MM}(h:L[k]? = some m):bestL f a (L.take (k+1))=if (bestL f a (L.take k)).2<f m then (m,f m) else bestL f a (L.take k):=by
 rw [List.take_add_one,h]
 exact bestL_append f _ a m
set_option maxHeartbeats 4000000 in
set_option maxRecDepth 100000 in
theorem First_core(R:RM)(hV:Valid R)(d:Nat)(hd:d≤20)(hO:OfAt R d):FirstAt R d:=by
 intro P v u D w hD hS hR hP
 obtain⟨f,hf⟩:∃ f:MM→Int,∀ m,f m=nearM (-(ofM R d (makeM R P m))):=⟨_,fun _=>rfl⟩
 have HFE:Hid (firstM R d P=bestL f (⟨0,0,0⟩,-2000) (listM R P)):=hide (by rw [show f=fun m=>nearM (-(ofM R d (makeM R P m))) from funext hf];rfl)
 have HFM:=hide hf
 have HBD:=hide (fun m=>of_bound R d (makeM R P m) (turn_make hS.turn m) (by omega))
 have HMK:=hide (fun m (hm:m∈listM R P) W (hW:Ext w W)=>Make_any R P m v u W (hR.ext hW) (hP.ext hW) hV hS (mem_listM.1 hm))
 have HOF:=hide (fun m (hm:m∈listM R P) W (v':Value) (hW:Ext w W) (h:PA W v' (makeM R P m))=>hO (makeM R P m) v v' (D-1) W (by omega) (sound_make hV hS (mem_listM.1 hm)) (hR.ext hW) h)
 have HLI:=hide (fun W (hW:Ext w W)=>List_any R P v u W (hR.ext hW) (hP.ext hW) hV hS)
 have HLL:=hide (listM_len hV hS)
 have hwd:IntKind.i64.wrap (D-1)=D-1:=by
  have:D≤21:=by omega
  rw [IntKind.wrap_i64];omega
 obtain⟨pA,pc,sA,sc,eA,ec,rfl,-⟩:=hR
 obtain⟨cA,cc,aA,ac,bA,bc,rfl,-⟩:=hP
 have HDD:=hide hd
 clear hV hS hO hf hD hd
 generalize firstM R d P=Y at *
 generalize hL:listM R P=L at *
 clear hL
 obtain⟨x1,k1,k2,k3,k4⟩:=blks4 w #[.string R.name,.int .i64 R.width,.int .i64 R.height,.slice pA R.pieces.length pc,.slice sA R.start.length sc,.bool R.falls,.bool R.keeps,.slice eA R.ends.length ec,.int .i64 R.blocked,.int .i64 R.quiet,.int .i64 R.rept] 26 #[.slice cA P.cells.length cc,.slice aA P.hand0.length ac,.slice bA P.hand1.length bc,.int .i64 P.turn,.int .i64 P.quiet] 29 #[.int .i64 0,.int .i64 0,.int .i64 0] 31 #[.int .i64 0,.int .i64 0,.int .i64 0] 31
 have X1:=hide x1
 have K1:=hide k1
 have K2:=hide k2
 have K3:=hide k3
 have K4:=hide k4
 clear x1 k1 k2 k3 k4
 have f1:=K1.out.cell
 have f2:=K2.out.cell
 go_enter Crz.func45,Tryz.ntmps45
 go_wp2_with fail
 refine(HLI.out _ X1.out).mono ?_
 rintro e w2 ⟨v5,rfl,own5,x2⟩
 have HNE:Hid (w.heap.size≠w.heap.size+1+1+1∧w.heap.size+1≠w.heap.size+1+1+1∧w.heap.size+1+1≠w.heap.size+1+1+1∧w.heap.size≤w.heap.size+1+1+1∧w.heap.size≤w.heap.size+1+1):=hide (by omega)
 have X2:=hide (qT X1.out x2)
 have FM:=hide (far_moves own5 K4.out.lt)
 obtain⟨A5,c5,rfl,-⟩:=own5
 have KR:=hide (K1.out.ext x2)
 have KP:=hide (K2.out.ext x2)
 have KO:=hide (K3.out.ext x2)
 have KB:=hide (K4.out.ext x2)
 clear f1 f2 x2 X1 K1 K2 K3 K4 HLI
 generalize w.heap.size+1+1+1=BB at *
 generalize w.heap.size+1+1=BO at *
 generalize w.heap.size+1=BP at *
 generalize hBR:w.heap.size=BR at *
 have HBR:=hide hBR
 clear hBR
 have HX2:Hid (∀ W,Gr BB w2 W→Ext w W):=hide (fun W h=>h.to_ext X2.out (by rw [HBR.out];exact HNE.out.2.2.2.1))
 have hll:=HLL.out
 go_wp2
 go_loopw [9,17] (fun n i wr=>∃ k:Nat,k≤L.length∧i=.int .i64 k∧n=.int .i64 (bestL f (⟨0,0,0⟩,-2000) (L.take k)).2∧Blk wr BB 31 #[.int .i64 (bestL f (⟨0,0,0⟩,-2000) (L.take k)).1.src,.int .i64 (bestL f (⟨0,0,0⟩,-2000) (L.take k)).1.dst,.int .i64 (bestL f (⟨0,0,0⟩,-2000) (L.take k)).1.piece]∧Gr BB w2 wr) (fun _ i _=>L.length-(intOf i).toNat)
 case atStart=>exact⟨0,Nat.zero_le _,rfl,rfl,KB.out,Gr.refl _⟩
 case round =>
  obtain⟨k,hk,rfl,rfl,kB,gr⟩:=hrel
  by_cases hlt:k<L.length
  ·obtain⟨m,hm⟩:∃ m,L[k]? = some m:=⟨L[k],List.getElem?_eq_getElem _⟩
   have HBT:=hide (bestL_take (f:=f) (a:=(⟨0,0,0⟩,-2000)) hm)
   have hmv:=FM.out wr gr
   obtain⟨A',c',e',hc'⟩:=hmv
   obtain⟨b,o,rfl,m0,m1,m2⟩:=moves_get hc' hm
   simp only [Value.slice.injEq] at e'
   obtain⟨rfl,-,rfl⟩:=e'
   have hml:=List.mem_of_getElem? hm
   have HMK2:=hide (HMK.out m hml)
   have HOF2:=hide (HOF.out m hml)
   have hb:=HBD.out m
   have hfm:=HFM.out m
   generalize makeM R P m=Q at *
   generalize ofM R d Q=z at *
   have HZ:Hid (-1000≤z∧z≤1000∧f m=nearM (-z)):=hide ⟨by have:=HDD.out;unfold boundB at hb;omega,by have:=HDD.out;unfold boundB at hb;omega,hfm⟩
   have hwn:IntKind.i64.wrap (-z)=-z:=by have:=HZ.out;rw [IntKind.wrap_i64];omega
   have HNE2:Hid (∀ W,Calls Crz.prog 29 #[.int .i64 (-z)] W fun e w'=>e=.returned (.int .i64 (f m))∧Ext W w'):=hide (fun W=>by rw [HZ.out.2.2];exact Nearer_any (-z) W (by have:=HZ.out;omega) (by have:=HZ.out;omega))
   generalize f m=q at *
   generalize bestL f (⟨0,0,0⟩,-2000) (L.take k)=y at *
   clear hb hfm hml hm hc'
   go_upto_region 6 with fail
   obtain⟨xm,km⟩:=blks1 wr #[.int .i64 m.src,.int .i64 m.dst,.int .i64 m.piece] 31
   have X5:=hide (qT (HX2.out wr gr) xm)
   have KR5:=hide ((KR.out.blk' gr HNE.out.1).ext xm)
   have KP5:=hide ((KP.out.blk' gr HNE.out.2.1).ext xm)
   have KM5:=hide km
   have KB5:=hide (kB.ext xm)
   have G5:=hide (gr.ext xm)
   clear xm km kB gr m0 m1 m2
   generalize wr.alloc _=w5 at *
   generalize wr.heap.size=BM at *
   have keepK:=hide (fun W (h:Ext w5 W)=>(show (fun W=>W.cell? ⟨BR,0,none⟩=some (.string R.name)∧W.cell? ⟨BR,1,none⟩=some (.int .i64 R.width)∧W.cell? ⟨BR,2,none⟩=some (.int .i64 R.height)∧W.cell? ⟨BR,3,none⟩=some (.slice pA R.pieces.length pc)∧W.cell? ⟨BR,4,none⟩=some (.slice sA R.start.length sc)∧W.cell? ⟨BR,5,none⟩=some (.bool R.falls)∧W.cell? ⟨BR,6,none⟩=some (.bool R.keeps)∧W.cell? ⟨BR,7,none⟩=some (.slice eA R.ends.length ec)∧W.cell? ⟨BR,8,none⟩=some (.int .i64 R.blocked)∧W.cell? ⟨BR,9,none⟩=some (.int .i64 R.quiet)∧W.cell? ⟨BR,10,none⟩=some (.int .i64 R.rept)∧W.cell? ⟨BP,0,none⟩=some (.slice cA P.cells.length cc)∧W.cell? ⟨BP,1,none⟩=some (.slice aA P.hand0.length ac)∧W.cell? ⟨BP,2,none⟩=some (.slice bA P.hand1.length bc)∧W.cell? ⟨BP,3,none⟩=some (.int .i64 P.turn)∧W.cell? ⟨BP,4,none⟩=some (.int .i64 P.quiet)∧W.cell? ⟨BM,0,none⟩=some (.int .i64 m.src)∧W.cell? ⟨BM,1,none⟩=some (.int .i64 m.dst)∧W.cell? ⟨BM,2,none⟩=some (.int .i64 m.piece)∧Ext w5 W) W from ⟨(KR5.out.ext h).cell 0,(KR5.out.ext h).cell 1,(KR5.out.ext h).cell 2,(KR5.out.ext h).cell 3,(KR5.out.ext h).cell 4,(KR5.out.ext h).cell 5,(KR5.out.ext h).cell 6,(KR5.out.ext h).cell 7,(KR5.out.ext h).cell 8,(KR5.out.ext h).cell 9,(KR5.out.ext h).cell 10,(KP5.out.ext h).cell 0,(KP5.out.ext h).cell 1,(KP5.out.ext h).cell 2,(KP5.out.ext h).cell 3,(KP5.out.ext h).cell 4,(KM5.out.ext h).cell 0,(KM5.out.ext h).cell 1,(KM5.out.ext h).cell 2,h⟩))
   have yy:Ext w5 w5.drew:=Below.drew (Below.refl _ _)
   refine region_K (fun W=>W.cell? ⟨BR,0,none⟩=some (.string R.name)∧W.cell? ⟨BR,1,none⟩=some (.int .i64 R.width)∧W.cell? ⟨BR,2,none⟩=some (.int .i64 R.height)∧W.cell? ⟨BR,3,none⟩=some (.slice pA R.pieces.length pc)∧W.cell? ⟨BR,4,none⟩=some (.slice sA R.start.length sc)∧W.cell? ⟨BR,5,none⟩=some (.bool R.falls)∧W.cell? ⟨BR,6,none⟩=some (.bool R.keeps)∧W.cell? ⟨BR,7,none⟩=some (.slice eA R.ends.length ec)∧W.cell? ⟨BR,8,none⟩=some (.int .i64 R.blocked)∧W.cell? ⟨BR,9,none⟩=some (.int .i64 R.quiet)∧W.cell? ⟨BR,10,none⟩=some (.int .i64 R.rept)∧W.cell? ⟨BP,0,none⟩=some (.slice cA P.cells.length cc)∧W.cell? ⟨BP,1,none⟩=some (.slice aA P.hand0.length ac)∧W.cell? ⟨BP,2,none⟩=some (.slice bA P.hand1.length bc)∧W.cell? ⟨BP,3,none⟩=some (.int .i64 P.turn)∧W.cell? ⟨BP,4,none⟩=some (.int .i64 P.quiet)∧W.cell? ⟨BM,0,none⟩=some (.int .i64 m.src)∧W.cell? ⟨BM,1,none⟩=some (.int .i64 m.dst)∧W.cell? ⟨BM,2,none⟩=some (.int .i64 m.piece)∧Ext w5 W) (fun _=>True) [] (by kernel_rfl) ?_
   have hT0:=keepK.out _ yy
   refine tl 0 hT0 (fun _=>trivial) (v:=?_) (fun W hW=>?_) ?_
   rotate_left
   ·obtain⟨z0,z1,z2,z3,z4,z5,z6,z7,z8,z9,z10,z11,z12,z13,z14,z15,z16,z17,z18,z19⟩:=hW;go_simp;first|done|with_reducible rfl
   refine tl 1 hT0 (fun _=>trivial) (v:=?_) (fun W hW=>?_) ?_
   rotate_left
   ·obtain⟨z0,z1,z2,z3,z4,z5,z6,z7,z8,z9,z10,z11,z12,z13,z14,z15,z16,z17,z18,z19⟩:=hW;go_simp;first|done|with_reducible rfl
   refine tl 2 hT0 (fun _=>trivial) (v:=?_) (fun W hW=>?_) ?_
   rotate_left
   ·obtain⟨z0,z1,z2,z3,z4,z5,z6,z7,z8,z9,z10,z11,z12,z13,z14,z15,z16,z17,z18,z19⟩:=hW;go_simp;first|done|with_reducible rfl
   refine tl 3 hT0 (fun _=>trivial) (v:=?_) (fun W hW=>?_) ?_
   rotate_left
   ·obtain⟨z0,z1,z2,z3,z4,z5,z6,z7,z8,z9,z10,z11,z12,z13,z14,z15,z16,z17,z18,z19⟩:=hW;go_simp;first|done|with_reducible rfl
   refine tk 5 hT0 (fun _=>trivial) ?_
   refine tk 6 hT0 (fun _=>trivial) ?_
   refine anyK_on1 4 (by kernel_rfl) ?_
   refine tw 4 (fun K hK=>?_)
   go_simp
   refine(HMK2.out _ (qT X5.out yy)).mono ?_
   rintro e wk ⟨v6,rfl,hp6,xx⟩
   try go_wp2_with fail
   replace yy:=qT yy xx
   replace hp6:=hp6.at_
   have HP6:=hide hp6
   clear hp6
   have hT1:=keepK.out _ yy
   refine hK.out _ _ hT1 (fun _=>trivial) ?_
   clear hK K
   try simp only [Act.put,List.setIfInBounds_toArray,List.set_cons_zero,List.set_cons_succ]
   refine anyK_on1 7 (by kernel_rfl) ?_
   refine tw 7 (fun K hK=>?_)
   go_simp
   refine(HOF2.out _ _ (qT X5.out yy) HP6.out).mono ?_
   rintro e wz ⟨rfl,xx⟩
   try go_wp2_with fail
   replace yy:=qT yy xx
   have hT2:=keepK.out _ yy
   refine hK.out _ _ hT2 (fun _=>trivial) ?_
   clear hK K
   try simp only [Act.put,List.setIfInBounds_toArray,List.set_cons_zero,List.set_cons_succ]
   refine tk 8 hT2 (fun _=>trivial) ?_
   refine anyK_on1 9 (by kernel_rfl) ?_
   refine tw 9 (fun K hK=>?_)
   go_simp
   refine(HNE2.out _).mono ?_
   rintro e wy ⟨rfl,xx⟩
   try go_wp2_with fail
   replace yy:=qT yy xx
   have hT3:=keepK.out _ yy
   refine hK.out _ _ hT3 (fun _=>trivial) ?_
   clear hK K
   try simp only [Act.put,List.setIfInBounds_toArray,List.set_cons_zero,List.set_cons_succ]
   refine tk 10 hT3 (fun _=>trivial) ?_
   refine anyK_done (by kernel_rfl) ?_ _
   clear keepK hT0 hT1 hT2 hT3
   have KB6:=hide (KB5.out.ext yy)
   have KM6:=hide (KM5.out.ext yy)
   have G6:=hide (G5.out.ext yy)
   clear KB5 KM5 G5 KR5 KP5 X5 yy xx hwn
   generalize hwy:wy=w6 at *
   clear hwy
   by_cases hq:y.2<q
   ·have t0:decide (y.2<q)=true:=by simpa using hq
    have HB2:=hide (HBT.out.trans (if_pos hq))
    clear HBT hq
    have g1:=KM6.out.cell
    have g2:=KB6.out.frozen
    have g3:=KB6.out.cell
    go_wp2
    clear g1 g2 g3
    go_roundw
    case rel=>exact⟨k+1,by omega,by go_num,by rw [HB2.out],by rw [HB2.out];exact qB (i:=2) (qB (i:=1) (qB (i:=0) KB6.out rfl) rfl) rfl,((G6.out.set 0 _).set 1 _).set 2 _⟩
    case measure=>simp [intOf];omega
   ·have t0:decide (y.2<q)=false:=by simpa using hq
    have HB2:=hide (HBT.out.trans (if_neg hq))
    clear HBT hq
    go_wp2
    go_roundw
    case rel=>exact⟨k+1,by omega,by go_num,by rw [HB2.out],by rw [HB2.out];exact KB6.out,G6.out⟩
    case measure=>simp [intOf];omega
  ·obtain rfl:k=L.length:=by omega
   rw [List.take_length,← HFE.out] at kB ⊢
   have KB6:=hide kB
   have KO6:=hide (KO.out.blk' gr HNE.out.2.2.1)
   have X6:=hide (HX2.out wr gr)
   have HLO:Hid (w.heap.size≤BO):=hide (by rw [HBR.out];exact HNE.out.2.2.2.2)
   clear kB gr hk hlt
   have g1:=KB6.out.cell
   have g2:=KO6.out.frozen
   have g3:=KO6.out.cell
   go_wp2
   have K:=qB (i:=2) (u:=.int .i64 Y.1.piece) (qB (i:=1) (u:=.int .i64 Y.1.dst) (qB (i:=0) (u:=.int .i64 Y.1.src) KO6.out rfl) rfl) (cs':=#[.int .i64 Y.1.src,.int .i64 Y.1.dst,.int .i64 Y.1.piece]) rfl
   have X:=qS (qS (qS X6.out (p:=⟨BO,0,none⟩) HLO.out (.int .i64 Y.1.src)) (p:=⟨BO,1,none⟩) HLO.out (.int .i64 Y.1.dst)) (p:=⟨BO,2,none⟩) HLO.out (.int .i64 Y.1.piece)
   generalize ((wr.setCell ⟨BO,0,none⟩ (.int .i64 Y.1.src)).setCell ⟨BO,1,none⟩ (.int .i64 Y.1.dst)).setCell ⟨BO,2,none⟩ (.int .i64 Y.1.piece)=Wf at *
   have rr0:Wf.cell? ⟨BO,0,none⟩=some (.int .i64 Y.1.src):=K.cell 0
   have rr1:Wf.cell? ⟨BO,1,none⟩=some (.int .i64 Y.1.dst):=K.cell 1
   have rr2:Wf.cell? ⟨BO,2,none⟩=some (.int .i64 Y.1.piece):=K.cell 2
   refine bodyPost_ret (v:=.tuple #[.agg #[.int .i64 Y.1.src,.int .i64 Y.1.dst,.int .i64 Y.1.piece],.int .i64 Y.2]) ?_ rfl ?_
   ·simp [results,Tryz.results45,go_sem,rr0,rr1,rr2]
   ·exact⟨rfl,X⟩
theorem of_any(R:RM)(hV:Valid R):∀ d:Nat,d≤20→OfAt R d
 | 0,_=>Of_core R hV 0 (fun k h=>by cases h)
 | d+1,hd=>Of_core R hV (d+1) (fun k h=>by
   obtain rfl:d=k:=by omega
   exact First_core R hV d (by omega) (of_any R hV d (by omega)))
theorem first_any(R:RM)(hV:Valid R)(d:Nat)(hd:d≤20):FirstAt R d:=First_core R hV d hd (of_any R hV d hd)
def perftE(R:RM)(P:PosM)(D:Int):Int:=if checkE R P≠0 then checkE R P else if D<0∨12<D then 1 else if 50000<treeM R D.toNat P then 17 else 0
def perftN(R:RM)(P:PosM)(D:Int):Int:=if perftE R P D=0 then treeM R D.toNat P else 0
def perftL(R:RM)(P:PosM)(D:Int):Int:=if perftE R P D=0 then leafM R D.toNat P else 0
theorem perftE_chk{R:RM}{P:PosM}{D:Int}(h:checkE R P≠0):perftE R P D=checkE R P∧perftN R P D=0∧perftL R P D=0:=by
 have e:perftE R P D=checkE R P:=if_pos h
 exact⟨e,if_neg (by rw [e];exact h),if_neg (by rw [e];exact h)⟩
theorem perftE_arg{R:RM}{P:PosM}{D:Int}(h:checkE R P=0)(hd:D<0∨12<D):perftE R P D=1∧perftN R P D=0∧perftL R P D=0:=by
 have e:perftE R P D=1:=by unfold perftE;rw [if_neg (by simpa using h),if_pos hd]
 exact⟨e,if_neg (by rw [e];decide),if_neg (by rw [e];decide)⟩
theorem perftE_bound{R:RM}{P:PosM}{D:Int}(h:checkE R P=0)(hd:¬(D<0∨12<D))(ht:50000<treeM R D.toNat P):perftE R P D=17∧perftN R P D=0∧perftL R P D=0:=by
 have e:perftE R P D=17:=by unfold perftE;rw [if_neg (by simpa using h),if_neg hd,if_pos ht]
 exact⟨e,if_neg (by rw [e];decide),if_neg (by rw [e];decide)⟩
theorem perftE_ok{R:RM}{P:PosM}{D:Int}(h:checkE R P=0)(hd:¬(D<0∨12<D))(ht:¬50000<treeM R D.toNat P):perftE R P D=0∧perftN R P D=treeM R D.toNat P∧perftL R P D=leafM R D.toNat P:=by
 have e:perftE R P D=0:=by unfold perftE;rw [if_neg (by simpa using h),if_neg hd,if_neg ht]
 exact⟨e,if_pos e,if_pos e⟩
set_option maxHeartbeats 4000000 in
set_option maxRecDepth 100000 in
theorem PfCheck_any(R:RM)(P:PosM)(v u:Value)(D:Int)(w:World)(hR:RA w v R)(hP:PA w u P) :
  Calls Crz.prog 46 #[v,u,.int .i64 D] w fun e w'=>e=.returned (.tuple #[.int .i64 (perftN R P D),.int .i64 (perftL R P D),.int .i64 (perftE R P D)])∧Ext w w':=by
 have HC:=hide (fun W (hW:Ext w W)=>PCheck_any R P v u W (hR.ext hW) (hP.ext hW))
 have HRF:=hide (fun W (hW:Ext w W)=>hR.ext hW)
 have HPF:=hide (fun W (hW:Ext w W)=>hP.ext hW)
 obtain⟨pA,pc,sA,sc,eA,ec,rfl,-⟩:=hR
 obtain⟨cA,cc,aA,ac,bA,bc,rfl,-⟩:=hP
 obtain⟨x1,k1,k2⟩:=blks2 w #[.string R.name,.int .i64 R.width,.int .i64 R.height,.slice pA R.pieces.length pc,.slice sA R.start.length sc,.bool R.falls,.bool R.keeps,.slice eA R.ends.length ec,.int .i64 R.blocked,.int .i64 R.quiet,.int .i64 R.rept] 26 #[.slice cA P.cells.length cc,.slice aA P.hand0.length ac,.slice bA P.hand1.length bc,.int .i64 P.turn,.int .i64 P.quiet] 29
 have HX:=hide x1
 have K1:=hide k1
 have K2:=hide k2
 clear x1 k1 k2
 have f1:=K1.out.cell
 have f2:=K2.out.cell
 by_cases hc:checkE R P=0
 ·obtain⟨hV,hS⟩:=check_iff.1 hc
  have HVS:=hide (And.intro hV hS)
  clear hV hS
  have HC2:=hide hc
  rw [hc] at HC
  clear hc
  by_cases hd:D<0∨12<D
  ·obtain⟨e1,e2,e3⟩:=perftE_arg HC2.out hd
   rw [e1,e2,e3]
   clear e1 e2 e3 HVS
   rcases hd with hd | hd
   ·have t0:decide (D<0)=true:=by simpa using hd
    clear hd
    go_enter Crz.func46,Tryz.ntmps46
    go_wp2_with fail
    refine(HC.out _ HX.out).mono ?_
    rintro e w2 ⟨rfl,x2⟩
    clear f1 f2
    have X2:=hide x2
    clear x2
    go_wp2
    go_ret3
    exact⟨rfl,qT HX.out X2.out⟩
   ·have t0:decide (D<0)=false:=by simp;omega
    have t1:decide (12<D)=true:=by simpa using hd
    clear hd
    go_enter Crz.func46,Tryz.ntmps46
    go_wp2_with fail
    refine(HC.out _ HX.out).mono ?_
    rintro e w2 ⟨rfl,x2⟩
    clear f1 f2
    have X2:=hide x2
    clear x2
    go_wp2
    go_ret3
    exact⟨rfl,qT HX.out X2.out⟩
  ·have HD:=hide hd
   have t0:decide (D<0)=false:=by simp;omega
   have t1:decide (12<D)=false:=by simp;omega
   clear hd
   go_enter Crz.func46,Tryz.ntmps46
   go_wp2_with fail
   refine(HC.out _ HX.out).mono ?_
   rintro e w2 ⟨rfl,x2⟩
   have X2:=hide (qT HX.out x2)
   have g1:=(K1.out.ext x2).cell
   have g2:=(K2.out.ext x2).cell
   have HXX:=hide x2
   clear f1 f2 x2
   generalize (w.alloc _).alloc _=w1 at *
   generalize w.heap.size+1=BP at *
   generalize w.heap.size=BR at *
   go_upto_region 7 with fail
   obtain⟨x3,k3⟩:=blks1 w2 #[.string R.name,.int .i64 R.width,.int .i64 R.height,.slice pA R.pieces.length pc,.slice sA R.start.length sc,.bool R.falls,.bool R.keeps,.slice eA R.ends.length ec,.int .i64 R.blocked,.int .i64 R.quiet,.int .i64 R.rept,.int .i64 0,.int .i64 0] 99
   have FR:=hide (fun W (h:Gr w2.heap.size (w2.alloc (.cells #[.string R.name,.int .i64 R.width,.int .i64 R.height,.slice pA R.pieces.length pc,.slice sA R.start.length sc,.bool R.falls,.bool R.keeps,.slice eA R.ends.length ec,.int .i64 R.blocked,.int .i64 R.quiet,.int .i64 R.rept,.int .i64 0,.int .i64 0] 99)) W)=>HRF.out W (qT X2.out (h.to_ext x3 (Nat.le_refl _))))
   have FP:=hide (fun W (h:Gr w2.heap.size (w2.alloc (.cells #[.string R.name,.int .i64 R.width,.int .i64 R.height,.slice pA R.pieces.length pc,.slice sA R.start.length sc,.bool R.falls,.bool R.keeps,.slice eA R.ends.length ec,.int .i64 R.blocked,.int .i64 R.quiet,.int .i64 R.rept,.int .i64 0,.int .i64 0] 99)) W)=>HPF.out W (qT X2.out (h.to_ext x3 (Nat.le_refl _))))
   have GX:=hide (fun W (h:Gr w2.heap.size (w2.alloc (.cells #[.string R.name,.int .i64 R.width,.int .i64 R.height,.slice pA R.pieces.length pc,.slice sA R.start.length sc,.bool R.falls,.bool R.keeps,.slice eA R.ends.length ec,.int .i64 R.blocked,.int .i64 R.quiet,.int .i64 R.rept,.int .i64 0,.int .i64 0] 99)) W)=>qT X2.out (h.to_ext x3 (Nat.le_refl _)))
   have X3:=hide x3
   have K3:=hide k3
   have g3:=((K2.out.ext (Below.refl _ _)).ext (HXX.out)).ext X3.out
   clear g1 g2 k3 x3
   have g2:=g3.cell
   clear g3
   generalize w2.alloc _=w3 at *
   generalize w2.heap.size=Bc at *
   have HWK:=hide (walk_any R HVS.out.1 pA pc sA sc eA ec Bc D.toNat P _ w3 D 0 0 (by have:=HD.out;omega) (by have:=HD.out;omega) HVS.out.2 K3.out FR.out FP.out (by decide) (by decide) (by decide) (by decide))
   go_wp2_with fail
   refine HWK.out.mono ?_
   rintro e w4 ⟨ok,n',l',rfl,k4,g4,hok,hfl⟩
   have K4:=hide k4
   have X4:=hide (GX.out _ g4)
   clear g2 k4 g4 HWK FR FP GX K3 X3 X2
   cases ok
   ·have HE:=hide (perftE_bound HC2.out HD.out (by have:=hfl rfl;omega))
    clear hok hfl
    go_wp2
    go_ret3
    exact⟨by rw [HE.out.1,HE.out.2.1,HE.out.2.2];rfl,X4.out⟩
   ·obtain⟨a1,a2,a3⟩:=hok rfl
    obtain rfl:n'=treeM R D.toNat P:=by omega
    obtain rfl:l'=leafM R D.toNat P:=by omega
    have HE:=hide (perftE_ok HC2.out HD.out (by omega))
    clear hok hfl a1 a2 a3
    generalize treeM R D.toNat P=n' at *
    generalize leafM R D.toNat P=l' at *
    go_upto_region 9 with fail
    have keepK:=hide (fun W (h:Ext w4 W)=>(show (fun W=>W.cell? ⟨Bc,0,none⟩=some (.string R.name)∧W.cell? ⟨Bc,1,none⟩=some (.int .i64 R.width)∧W.cell? ⟨Bc,2,none⟩=some (.int .i64 R.height)∧W.cell? ⟨Bc,3,none⟩=some (.slice pA R.pieces.length pc)∧W.cell? ⟨Bc,4,none⟩=some (.slice sA R.start.length sc)∧W.cell? ⟨Bc,5,none⟩=some (.bool R.falls)∧W.cell? ⟨Bc,6,none⟩=some (.bool R.keeps)∧W.cell? ⟨Bc,7,none⟩=some (.slice eA R.ends.length ec)∧W.cell? ⟨Bc,8,none⟩=some (.int .i64 R.blocked)∧W.cell? ⟨Bc,9,none⟩=some (.int .i64 R.quiet)∧W.cell? ⟨Bc,10,none⟩=some (.int .i64 R.rept)∧W.cell? ⟨Bc,11,none⟩=some (.int .i64 n')∧W.cell? ⟨Bc,12,none⟩=some (.int .i64 l')∧Ext w4 W) W from ⟨(K4.out.ext h).cell 0,(K4.out.ext h).cell 1,(K4.out.ext h).cell 2,(K4.out.ext h).cell 3,(K4.out.ext h).cell 4,(K4.out.ext h).cell 5,(K4.out.ext h).cell 6,(K4.out.ext h).cell 7,(K4.out.ext h).cell 8,(K4.out.ext h).cell 9,(K4.out.ext h).cell 10,(K4.out.ext h).cell 11,(K4.out.ext h).cell 12,h⟩))
    have yy:Ext w4 w4.drew:=Below.drew (Below.refl _ _)
    refine region_K (fun W=>W.cell? ⟨Bc,0,none⟩=some (.string R.name)∧W.cell? ⟨Bc,1,none⟩=some (.int .i64 R.width)∧W.cell? ⟨Bc,2,none⟩=some (.int .i64 R.height)∧W.cell? ⟨Bc,3,none⟩=some (.slice pA R.pieces.length pc)∧W.cell? ⟨Bc,4,none⟩=some (.slice sA R.start.length sc)∧W.cell? ⟨Bc,5,none⟩=some (.bool R.falls)∧W.cell? ⟨Bc,6,none⟩=some (.bool R.keeps)∧W.cell? ⟨Bc,7,none⟩=some (.slice eA R.ends.length ec)∧W.cell? ⟨Bc,8,none⟩=some (.int .i64 R.blocked)∧W.cell? ⟨Bc,9,none⟩=some (.int .i64 R.quiet)∧W.cell? ⟨Bc,10,none⟩=some (.int .i64 R.rept)∧W.cell? ⟨Bc,11,none⟩=some (.int .i64 n')∧W.cell? ⟨Bc,12,none⟩=some (.int .i64 l')∧Ext w4 W) (fun _=>True) [] (by kernel_rfl) ?_
    have hT0:=keepK.out _ yy
    refine tk 0 hT0 (fun _=>trivial) ?_
    refine tk 1 hT0 (fun _=>trivial) ?_
    refine tk 2 hT0 (fun _=>trivial) ?_
    refine tl 3 hT0 (fun _=>trivial) (v:=?_) (fun W hW=>?_) ?_
    rotate_left
    ·obtain⟨z0,z1,z2,z3,z4,z5,z6,z7,z8,z9,z10,z11,z12,z13⟩:=hW;go_simp;first|done|with_reducible rfl
    refine tk 4 hT0 (fun _=>trivial) ?_
    refine tk 5 hT0 (fun _=>trivial) ?_
    refine tk 6 hT0 (fun _=>trivial) ?_
    refine tl 7 hT0 (fun _=>trivial) (v:=?_) (fun W hW=>?_) ?_
    rotate_left
    ·obtain⟨z0,z1,z2,z3,z4,z5,z6,z7,z8,z9,z10,z11,z12,z13⟩:=hW;go_simp;first|done|with_reducible rfl
    refine tk 8 hT0 (fun _=>trivial) ?_
    refine tk 9 hT0 (fun _=>trivial) ?_
    refine tk 10 hT0 (fun _=>trivial) ?_
    refine anyK_done (by kernel_rfl) ?_ _
    clear keepK hT0
    go_wp2
    go_ret3
    exact⟨by rw [HE.out.1,HE.out.2.1,HE.out.2.2];rfl,qT X4.out yy⟩
 ·obtain⟨e1,e2,e3⟩:=perftE_chk (D:=D) hc
  rw [e1,e2,e3]
  have t0:(checkE R P != 0)=true:=by simpa using hc
  clear e1 e2 e3 hc
  generalize checkE R P=E at *
  go_enter Crz.func46,Tryz.ntmps46
  go_wp2_with fail
  refine(HC.out _ HX.out).mono ?_
  rintro e w2 ⟨rfl,x2⟩
  have X2:=hide x2
  clear f1 f2 x2
  go_wp2
  go_ret3
  exact⟨rfl,qT HX.out X2.out⟩
set_option maxHeartbeats 2000000 in
set_option maxRecDepth 100000 in
theorem PfTree_any(R:RM)(P:PosM)(v u:Value)(D:Int)(w:World)(hR:RA w v R)(hP:PA w u P) :
  Calls Crz.prog 35 #[v,u,.int .i64 D] w fun e w'=>e=.returned (.tuple #[.int .i64 (perftN R P D),.int .i64 (perftE R P D)])∧Ext w w':=by
 have HC:=hide (fun W (hW:Ext w W)=>PfCheck_any R P v u D W (hR.ext hW) (hP.ext hW))
 obtain⟨pA,pc,sA,sc,eA,ec,rfl,-⟩:=hR
 obtain⟨cA,cc,aA,ac,bA,bc,rfl,-⟩:=hP
 obtain⟨x1,k1,k2⟩:=blks2 w #[.string R.name,.int .i64 R.width,.int .i64 R.height,.slice pA R.pieces.length pc,.slice sA R.start.length sc,.bool R.falls,.bool R.keeps,.slice eA R.ends.length ec,.int .i64 R.blocked,.int .i64 R.quiet,.int .i64 R.rept] 26 #[.slice cA P.cells.length cc,.slice aA P.hand0.length ac,.slice bA P.hand1.length bc,.int .i64 P.turn,.int .i64 P.quiet] 29
 have HX:=hide x1
 have f1:=k1.cell
 have f2:=k2.cell
 clear x1 k1 k2
 generalize perftE R P D=E at *
 generalize perftN R P D=N at *
 generalize perftL R P D=l at *
 go_enter Crz.func35,Tryz.ntmps35
 go_wp2_with fail
 refine(HC.out _ HX.out).mono ?_
 rintro e w2 ⟨rfl,x2⟩
 have X2:=hide x2
 clear f1 f2 x2
 go_wp2
 go_ret2
 exact⟨rfl,qT HX.out X2.out⟩
end Go.Proofs.YtdoibgmmijhlfaaGreat
