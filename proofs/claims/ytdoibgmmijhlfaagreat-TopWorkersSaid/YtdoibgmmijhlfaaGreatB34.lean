/- MovesAll MakeAny Legal After -/
import Derived.Test.YtdoibgmmijhlfaaGreatB32
import Derived.Test.YtdoibgmmijhlfaaGreatB33
import Derived.Test.YtdoibgmmijhlfaaGreatB27
import Derived.Test.YtdoibgmmijhlfaaGreatB29
import Derived.Test.YtdoibgmmijhlfaaGreatB30
import Derived.Test.YtdoibgmmijhlfaaGreatB31
namespace Go.Proofs.YtdoibgmmijhlfaaGreat
open Go.ChangeShapes Go.WideShapes Go.ChangeAt Go.RowKit Go.Shelf
set_option linter.unusedVariables false
def MovesAt (w : World) (v : Value) (L : List MoveM) : Prop:=∃ A c,v=.slice A L.length c∧CellsAt w A (L.flatMap MoveM.vals)
theorem MovesAt.ext {w w' : World} {v : Value} {L : List MoveM} (h : MovesAt w v L) (he : Ext w w') : MovesAt w' v L:=by
 obtain ⟨A,c,e,h⟩:=h
 exact ⟨A,c,e,h.ext he⟩
theorem OwnM.at_ {w0 w : World} {v : Value} {L : List MoveM} (h : OwnM w0 w v L) : MovesAt w v L:=by
 obtain ⟨A,c,e,h⟩:=h
 exact ⟨A,c,e,(own_cells h).1⟩
theorem moves_get {w : World} {A : Option Addr} {L : List MoveM} (h : CellsAt w A (L.flatMap MoveM.vals)) {k : Nat} {x : MoveM} (hk : L[k]? = some x) :
  ∃ b o,A=some ⟨b,o,none⟩∧w.cell? ⟨b,o + k * 3,none⟩=some (.int .i64 x.src)∧w.cell? ⟨b,o + k * 3 + 1,none⟩=some (.int .i64 x.dst)∧w.cell? ⟨b,o + k * 3 + 2,none⟩=some (.int .i64 x.piece):=by
 have g:=fun j hj => flat_get MoveM.vals 3 (fun _ => rfl) L k j x hk hj
 obtain ⟨b,o,rfl,h0⟩:=h (k * 3 + 0) _ (g 0 (by omega))
 obtain ⟨_,_,e1,h1⟩:=h (k * 3 + 1) _ (g 1 (by omega))
 obtain ⟨_,_,e2,h2⟩:=h (k * 3 + 2) _ (g 2 (by omega))
 simp only [Option.some.injEq,Addr.mk.injEq,and_true] at e1 e2
 obtain ⟨rfl,rfl⟩:=e1
 obtain ⟨rfl,rfl⟩:=e2
 exact ⟨b,o,rfl,h0,h1,h2⟩
def IdxPost (w : World) (L : List MoveM) (m : MoveM) (e : Ending) (w' : World) : Prop:=∃ i : Int,e=.returned (.int .i64 i)∧(0≤i ↔ m ∈ L)∧Ext w w'
set_option maxHeartbeats 2000000 in
set_option maxRecDepth 100000 in
theorem Index_any (L : List MoveM) (m : MoveM) (v : Value) (w : World) (h : MovesAt w v L) (hl : L.length≤1000000) :
  Calls Crz.prog 119 #[v,.agg #[.int .i64 m.src,.int .i64 m.dst,.int .i64 m.piece]] w (IdxPost w L m):=by
 obtain ⟨A,c,rfl,hc⟩:=h
 obtain ⟨x1,k1⟩:=blks1 w #[.int .i64 m.src,.int .i64 m.dst,.int .i64 m.piece] 31
 have HX:=hide x1
 have HC:=hide (hc.ext x1)
 have HK:=hide k1
 clear hc x1 k1
 go_enter Crz.func119,Tryz.ntmps119
 go_wp2
 generalize w.alloc (.cells #[.int .i64 m.src,.int .i64 m.dst,.int .i64 m.piece] 31)=w2 at *
 generalize w.heap.size=B1 at *
 go_loopw [5,8] (fun _ i wr => ∃ k q : Nat,k≤L.length∧i=.int .i64 k∧wr=w2.drewN q∧Hid (m ∉ L.take k)) (fun _ i _ => L.length - (intOf i).toNat)
 case atStart => exact ⟨0,0,Nat.zero_le _,rfl,rfl,hide (by simp)⟩
 case round =>
  obtain ⟨k,q,hk,rfl,rfl,hn⟩:=hrel
  by_cases hlt : k < L.length
  ·obtain ⟨y,hy⟩ : ∃ y,L[k]? = some y:=⟨L[k],List.getElem?_eq_getElem _⟩
   obtain ⟨b,o,rfl,y0,y1,y2⟩:=moves_get HC.out hy
   have m0 : w2.cell? ⟨B1,0,none⟩=some (.int .i64 m.src):=HK.out.cell 0
   have m1 : w2.cell? ⟨B1,1,none⟩=some (.int .i64 m.dst):=HK.out.cell 1
   have m2 : w2.cell? ⟨B1,2,none⟩=some (.int .i64 m.piece):=HK.out.cell 2
   have j0 : (0 : Int)≤(k : Int):=by omega
   have j1 : (k : Int) < (L.length : Int):=by omega
   have HT : Hid (L.take (k + 1)=L.take k ++ [y]):=hide (by rw [List.take_add_one,hy]; rfl)
   have HM:=hide (List.mem_of_getElem? hy)
   clear hy
   by_cases hmy : m=y
   ·subst hmy
    go_wp2_with fail
    go_quiet (fail)
    go_wp2
    go_ret
    exact ⟨k,rfl,⟨fun _ => HM.out,fun _ => by omega⟩,ext_drewN (ext_drewN HX.out _) _⟩
   ·have HN : Hid (m ∉ L.take (k + 1)):=hide (by
     rw [HT.out,List.mem_append]
     rintro (h | h)
     ·exact hn.out h
     ·exact hmy (by simpa using h))
    clear hn
    rcases move_ne hmy with h1 | ⟨e1,h1⟩ | ⟨e1,e2,h1⟩
    ·have t1 : (m.src == y.src)=false:=by simpa using h1
     clear h1 hmy
     go_wp2_with fail
     go_quiet (fail)
     go_wp2
     go_roundw
     case rel => exact ⟨k + 1,_,by omega,by go_num,rfl,HN⟩
     case measure => simp [intOf]; omega
    ·have t1 : (m.src == y.src)=true:=by simpa using e1
     have t2 : (m.dst == y.dst)=false:=by simpa using h1
     clear h1 hmy e1
     go_wp2_with fail
     go_quiet (fail)
     go_wp2
     go_roundw
     case rel => exact ⟨k + 1,_,by omega,by go_num,rfl,HN⟩
     case measure => simp [intOf]; omega
    ·have t1 : (m.src == y.src)=true:=by simpa using e1
     have t2 : (m.dst == y.dst)=true:=by simpa using e2
     have t3 : (m.piece == y.piece)=false:=by simpa using h1
     clear h1 hmy e1 e2
     go_wp2_with fail
     go_quiet (fail)
     go_wp2
     go_roundw
     case rel => exact ⟨k + 1,_,by omega,by go_num,rfl,HN⟩
     case measure => simp [intOf]; omega
  ·obtain rfl : k=L.length:=by omega
   go_wp2
   go_ret
   refine ⟨-1,rfl,⟨fun h => by omega,fun h => ?_⟩,ext_drewN HX.out _⟩
   have:=hn.out
   rw [List.take_length] at this
   exact absurd h this
instance (m : MoveM) (L : List MoveM) : Decidable (m ∈ L):=inferInstance
theorem Contains_any (L : List MoveM) (m : MoveM) (v : Value) (w : World) (h : MovesAt w v L) (hl : L.length≤1000000) :
  Calls Crz.prog 81 #[v,.agg #[.int .i64 m.src,.int .i64 m.dst,.int .i64 m.piece]] w fun e w' => e=.returned (.bool (decide (m ∈ L)))∧Ext w w':=by
 obtain ⟨x1,k1⟩:=blks1 w #[.int .i64 m.src,.int .i64 m.dst,.int .i64 m.piece] 31
 have HI:=hide (Index_any L m v _ (h.ext x1) hl)
 have HX:=hide x1
 obtain ⟨A,c,rfl,-⟩:=h
 clear x1
 have f1:=k1.cell
 obtain ⟨bb,hbb⟩ : ∃ bb,bb=decide (m ∈ L):=⟨_,rfl⟩
 have HB:=hide hbb
 rw [← hbb]
 clear hbb
 go_enter Crz.func81,Tryz.ntmps81
 go_wp2_with fail
 refine HI.out.mono ?_
 rintro e w2 ⟨i,rfl,hi,x2⟩
 have HII:=hide hi
 have X2:=hide x2
 clear hi x2 f1 k1
 go_wp2
 go_ret
 exact ⟨by rw [HB.out,← decide_eq_decide.2 HII.out]; rfl,ext_trans HX.out X2.out⟩
theorem listM_len {R : RulesM} {P : PosM} (hV : Valid R) (hS : Sound R P) : (listM R P).length≤1000000:=by
 have h1:=listOf_eq (l:=rawM R P) (fun x => sortM_mem) (sortM_sorted _)
 have h2:=dedup_le (sortM (rawM R P))
 have h3:=putsM_len hV hS
 have h4:=stepsToM_len (P:=P) hV P.cells.length
 have har:=area_bd _ _ hV.side
 have ha:=hS.area
 rw [h1,sortM_length] at h2
 unfold rawM at h2
 rw [List.length_append] at h2
 unfold listM rawM
 omega
def AllPost (w : World) (L : List MoveM) (e : Ending) (w' : World) : Prop:=∃ v',e=.returned (.tuple #[v',.int .i64 0])∧OwnM w w' v' L∧Ext w w'
set_option maxHeartbeats 2000000 in
set_option maxRecDepth 100000 in
theorem All_yes (R : RulesM) (P : PosM) (v u : Value) (w : World) (hR : RulesAt w v R) (hP : PosAt w u P) (hV : Valid R) (hS : Sound R P) :
  Calls Crz.prog 80 #[v,u] w (AllPost w (listM R P)):=by
 have h0:=check_iff.2 ⟨hV,hS⟩
 have HC:=hide (fun W (hW : Ext w W) => h0 ▸ PCheck_any R P v u W (hR.ext hW) (hP.ext hW))
 have HL:=hide (fun W (hW : Ext w W) => List_any R P v u W (hR.ext hW) (hP.ext hW) hV hS)
 obtain ⟨pA,pc,sA,sc,eA,ec,rfl,-⟩:=hR
 obtain ⟨cA,cc,aA,ac,bA,bc,rfl,-⟩:=hP
 clear h0 hV hS
 obtain ⟨x1,k1,k2⟩:=blks2 w #[.string R.name,.int .i64 R.width,.int .i64 R.height,.slice pA R.pieces.length pc,.slice sA R.start.length sc,.bool R.falls,.bool R.keeps,.slice eA R.ends.length ec,.int .i64 R.blocked,.int .i64 R.quiet,.int .i64 R.rept] 26 #[.slice cA P.cells.length cc,.slice aA P.hand0.length ac,.slice bA P.hand1.length bc,.int .i64 P.turn,.int .i64 P.quiet] 29
 have HX:=hide x1
 have K1:=hide k1
 have K2:=hide k2
 clear x1 k1 k2
 have f1:=K1.out.cell
 have f2:=K2.out.cell
 go_enter Crz.func80,Tryz.ntmps80
 go_wp2_with fail
 refine (HC.out _ HX.out).mono ?_
 rintro e w2 ⟨rfl,x2⟩
 have X2:=hide (ext_trans HX.out x2)
 have g1:=(K1.out.ext x2).cell
 have g2:=(K2.out.ext x2).cell
 clear f1 f2 x2
 go_wp2_with fail
 refine (HL.out _ X2.out).mono ?_
 rintro e w3 ⟨v3,rfl,own3,x3⟩
 have O3:=hide own3
 have X3:=hide x3
 clear g1 g2 own3 x3
 go_wp2
 go_ret2
 exact ⟨_,rfl,O3.out.base X2.out,ext_trans X2.out X3.out⟩
theorem Make_put (R : RulesM) (P : PosM) (v u : Value) (d q : Nat) (w : World) (hR : RulesAt w v R) (hP : PosAt w u P) (hV : Valid R) (hS : Sound R P) (hm : CanPut R P d q) :
  Calls Crz.prog 39 #[v,u,.agg #[.int .i64 (-1),.int .i64 (d : Int),.int .i64 (q : Int)]] w (MakePost w (makeM R P ⟨-1,d,q⟩)):=by
 rcases hS.turn with h | h
 ·exact make_put0 R P v u d q w hR hP hV hS h hm
 ·exact make_put1 R P v u d q w hR hP hV hS h hm
theorem Make_step (R : RulesM) (P : PosM) (v u : Value) (s d q : Nat) (w : World) (hR : RulesAt w v R) (hP : PosAt w u P) (hV : Valid R) (hS : Sound R P) (hm : CanStep R P s d q) :
  Calls Crz.prog 39 #[v,u,.agg #[.int .i64 (s : Int),.int .i64 (d : Int),.int .i64 (q : Int)]] w (MakePost w (makeM R P ⟨s,d,q⟩)):=by
 have hb : 0≤P.cells.getD d 0:=(hS.cells _ (by simp [hm.dst])).1
 by_cases hz : P.cells.getD d 0=0
 ·rcases hS.turn with h | h
  ·exact make_free0 R P v u s d q w hR hP hV hS h hm hz
  ·exact make_free1 R P v u s d q w hR hP hV hS h hm hz
 ·have hz' : 0 < P.cells.getD d 0:=by omega
  cases hk : R.keeps
  ·rcases hS.turn with h | h
   ·exact make_take0 R P v u s d q w hR hP hV hS h hm hz' hk
   ·exact make_take1 R P v u s d q w hR hP hV hS h hm hz' hk
  ·rcases hS.turn with h | h
   ·exact make_keep0 R P v u s d q w hR hP hV hS h hm hz' hk
   ·exact make_keep1 R P v u s d q w hR hP hV hS h hm hz' hk
set_option maxHeartbeats 2000000 in
set_option maxRecDepth 100000 in
theorem Legal_yes (R : RulesM) (P : PosM) (m : MoveM) (v u : Value) (w : World) (hR : RulesAt w v R) (hP : PosAt w u P) (hV : Valid R) (hS : Sound R P) :
  Calls Crz.prog 53 #[v,u,.agg #[.int .i64 m.src,.int .i64 m.dst,.int .i64 m.piece]] w fun e w' => e=.returned (.tuple #[.bool (decide (m ∈ listM R P)),.int .i64 0])∧Ext w w':=by
 have HA:=hide (fun W (hW : Ext w W) => All_yes R P v u W (hR.ext hW) (hP.ext hW) hV hS)
 have HL:=hide (fun W v' (h : MovesAt W v' (listM R P)) => Contains_any (listM R P) m v' W h (listM_len hV hS))
 obtain ⟨pA,pc,sA,sc,eA,ec,rfl,-⟩:=hR
 obtain ⟨cA,cc,aA,ac,bA,bc,rfl,-⟩:=hP
 clear hV hS
 obtain ⟨x1,k1,k2,k3⟩:=blks3 w #[.string R.name,.int .i64 R.width,.int .i64 R.height,.slice pA R.pieces.length pc,.slice sA R.start.length sc,.bool R.falls,.bool R.keeps,.slice eA R.ends.length ec,.int .i64 R.blocked,.int .i64 R.quiet,.int .i64 R.rept] 26 #[.slice cA P.cells.length cc,.slice aA P.hand0.length ac,.slice bA P.hand1.length bc,.int .i64 P.turn,.int .i64 P.quiet] 29 #[.int .i64 m.src,.int .i64 m.dst,.int .i64 m.piece] 31
 have HX:=hide x1
 have K3:=hide k3
 have f1:=k1.cell
 have f2:=k2.cell
 clear x1 k1 k2 k3
 generalize decide (m ∈ listM R P)=bb at *
 generalize listM R P=L at *
 go_enter Crz.func53,Tryz.ntmps53
 go_wp2_with fail
 refine (HA.out _ HX.out).mono ?_
 rintro e w2 ⟨v2,rfl,own2,x2⟩
 have g3:=(K3.out.ext x2).cell
 have X2:=hide (ext_trans HX.out x2)
 have M2:=own2.at_
 have M2':=hide M2
 obtain ⟨A2,c2,rfl,-⟩:=M2
 have HLL:=hide (HL.out _ _ M2'.out)
 clear f1 f2 x2 own2
 go_wp2_with fail
 refine HLL.out.mono ?_
 rintro e w3 ⟨rfl,x3⟩
 clear g3
 go_wp2
 go_ret2
 exact ⟨rfl,ext_trans X2.out x3⟩
theorem Make_any (R : RulesM) (P : PosM) (m : MoveM) (v u : Value) (w : World) (hR : RulesAt w v R) (hP : PosAt w u P) (hV : Valid R) (hS : Sound R P) (hm : m ∈ rawM R P) :
  Calls Crz.prog 39 #[v,u,.agg #[.int .i64 m.src,.int .i64 m.dst,.int .i64 m.piece]] w (MakePost w (makeM R P m)):=by
 rcases rawM_cases hV hS hm with ⟨d,q,rfl,hc,-⟩ | ⟨s,d,q,rfl,hc,-,-⟩
 ·exact Make_put R P v u d q w hR hP hV hS hc
 ·exact Make_step R P v u s d q w hR hP hV hS hc
def AfterPost (w : World) (Q : PosM) (e : Ending) (w' : World) : Prop:=∃ v',e=.returned (.tuple #[v',.int .i64 0])∧PosOwn w' w.heap.size v' Q∧Ext w w'
set_option maxHeartbeats 2000000 in
set_option maxRecDepth 100000 in
theorem After_yes (R : RulesM) (P : PosM) (m : MoveM) (v u : Value) (w : World) (hR : RulesAt w v R) (hP : PosAt w u P) (hV : Valid R) (hS : Sound R P) (hm : m ∈ listM R P) :
  Calls Crz.prog 24 #[v,u,.agg #[.int .i64 m.src,.int .i64 m.dst,.int .i64 m.piece]] w (AfterPost w (makeM R P m)):=by
 have HL:=hide (fun W (hW : Ext w W) => Legal_yes R P m v u W (hR.ext hW) (hP.ext hW) hV hS)
 have HM:=hide (fun W (hW : Ext w W) => Make_any R P m v u W (hR.ext hW) (hP.ext hW) hV hS (mem_listM.1 hm))
 rw [decide_eq_true hm] at HL
 obtain ⟨pA,pc,sA,sc,eA,ec,rfl,-⟩:=hR
 obtain ⟨cA,cc,aA,ac,bA,bc,rfl,-⟩:=hP
 generalize makeM R P m=Q at *
 obtain ⟨x1,k1,k2,k3,k4⟩:=blks4 w #[.string R.name,.int .i64 R.width,.int .i64 R.height,.slice pA R.pieces.length pc,.slice sA R.start.length sc,.bool R.falls,.bool R.keeps,.slice eA R.ends.length ec,.int .i64 R.blocked,.int .i64 R.quiet,.int .i64 R.rept] 26 #[.slice cA P.cells.length cc,.slice aA P.hand0.length ac,.slice bA P.hand1.length bc,.int .i64 P.turn,.int .i64 P.quiet] 29 #[.int .i64 m.src,.int .i64 m.dst,.int .i64 m.piece] 31 #[.slice none 0 0,.slice none 0 0,.slice none 0 0,.int .i64 0,.int .i64 0] 29
 have HX:=hide x1
 have K1:=hide k1
 have K2:=hide k2
 have K3:=hide k3
 have K4:=hide k4
 clear x1 k1 k2 k3 k4 hm hV hS
 have f1:=K1.out.cell
 have f2:=K2.out.cell
 have f3:=K3.out.cell
 go_enter Crz.func24,Tryz.ntmps24
 go_wp2_with fail
 refine (HL.out _ HX.out).mono ?_
 rintro e w2 ⟨rfl,x2⟩
 have X2:=hide (ext_trans HX.out x2)
 have g1:=(K1.out.ext x2).cell
 have g2:=(K2.out.ext x2).cell
 have g3:=(K3.out.ext x2).cell
 have L4:=hide (K4.out.ext x2)
 clear f1 f2 f3 x2
 go_wp2_with fail
 refine (HM.out _ X2.out).mono ?_
 rintro e w3 ⟨v',rfl,hown,x3⟩
 have hb : Hid (w.heap.size + 1 + 1 + 1 < w2.heap.size):=hide L4.out.lt
 obtain ⟨g0,c0,h1,c1,h2,c2,rfl,q0,q1,q2,r0,r1,r2,m0,m1,m2⟩:=hown
 have y3:=ext_trans X2.out x3
 have l4:=L4.out.ext x3
 have hlt : w.heap.size≤w.heap.size + 1 + 1 + 1:=by omega
 clear x3 X2 L4 g1 g2 g3
 have HB:=hide (show w.heap.size≤g0∧w.heap.size + 1 + 1 + 1 < g0 by have:=hb.out; omega)
 have Q1:=hide q1
 have Q2:=hide q2
 have M:=hide (And.intro m0 (And.intro m1 m2))
 clear q0 q1 q2 hb m0 m1 m2 HL HM
 generalize w.heap.size + 1 + 1 + 1=B4 at *
 have z:=l4.frozen
 have f:=l4.cell
 go_wp2
 have K:=blk_set5 l4 (u0:=.slice (some ⟨g0,0,none⟩) Q.cells.length c0) (u1:=.slice (some ⟨h1,0,none⟩) Q.hand0.length c1) (u2:=.slice (some ⟨h2,0,none⟩) Q.hand1.length c2) (u3:=.int .i64 Q.turn) (u4:=.int .i64 Q.quiet)
 have X:=(ext_set (ext_set (ext_set (ext_set (ext_set y3 (p:=⟨B4,0,none⟩) hlt (.slice (some ⟨g0,0,none⟩) Q.cells.length c0)) (p:=⟨B4,1,none⟩) hlt (.slice (some ⟨h1,0,none⟩) Q.hand0.length c1)) (p:=⟨B4,2,none⟩) hlt (.slice (some ⟨h2,0,none⟩) Q.hand1.length c2)) (p:=⟨B4,3,none⟩) hlt (.int .i64 Q.turn)) (p:=⟨B4,4,none⟩) hlt (.int .i64 Q.quiet))
 have E0:=(IRow.far (IRow.far (IRow.far (IRow.far (IRow.far r0 (p:=⟨B4,0,none⟩) (by have:=HB.out; show g0 ≠ B4; omega) (.slice (some ⟨g0,0,none⟩) Q.cells.length c0)) (p:=⟨B4,1,none⟩) (by have:=HB.out; show g0 ≠ B4; omega) (.slice (some ⟨h1,0,none⟩) Q.hand0.length c1)) (p:=⟨B4,2,none⟩) (by have:=HB.out; show g0 ≠ B4; omega) (.slice (some ⟨h2,0,none⟩) Q.hand1.length c2)) (p:=⟨B4,3,none⟩) (by have:=HB.out; show g0 ≠ B4; omega) (.int .i64 Q.turn)) (p:=⟨B4,4,none⟩) (by have:=HB.out; show g0 ≠ B4; omega) (.int .i64 Q.quiet))
 have E1:=(IRow.far (IRow.far (IRow.far (IRow.far (IRow.far r1 (p:=⟨B4,0,none⟩) (by have:=HB.out; have:=Q1.out; show h1 ≠ B4; omega) (.slice (some ⟨g0,0,none⟩) Q.cells.length c0)) (p:=⟨B4,1,none⟩) (by have:=HB.out; have:=Q1.out; show h1 ≠ B4; omega) (.slice (some ⟨h1,0,none⟩) Q.hand0.length c1)) (p:=⟨B4,2,none⟩) (by have:=HB.out; have:=Q1.out; show h1 ≠ B4; omega) (.slice (some ⟨h2,0,none⟩) Q.hand1.length c2)) (p:=⟨B4,3,none⟩) (by have:=HB.out; have:=Q1.out; show h1 ≠ B4; omega) (.int .i64 Q.turn)) (p:=⟨B4,4,none⟩) (by have:=HB.out; have:=Q1.out; show h1 ≠ B4; omega) (.int .i64 Q.quiet))
 have E2:=(IRow.far (IRow.far (IRow.far (IRow.far (IRow.far r2 (p:=⟨B4,0,none⟩) (by have:=HB.out; have:=Q1.out; have:=Q2.out; show h2 ≠ B4; omega) (.slice (some ⟨g0,0,none⟩) Q.cells.length c0)) (p:=⟨B4,1,none⟩) (by have:=HB.out; have:=Q1.out; have:=Q2.out; show h2 ≠ B4; omega) (.slice (some ⟨h1,0,none⟩) Q.hand0.length c1)) (p:=⟨B4,2,none⟩) (by have:=HB.out; have:=Q1.out; have:=Q2.out; show h2 ≠ B4; omega) (.slice (some ⟨h2,0,none⟩) Q.hand1.length c2)) (p:=⟨B4,3,none⟩) (by have:=HB.out; have:=Q1.out; have:=Q2.out; show h2 ≠ B4; omega) (.int .i64 Q.turn)) (p:=⟨B4,4,none⟩) (by have:=HB.out; have:=Q1.out; have:=Q2.out; show h2 ≠ B4; omega) (.int .i64 Q.quiet))
 clear y3 l4 z f r0 r1 r2
 generalize (((((w3.setCell ⟨B4,0,none⟩ (.slice (some ⟨g0,0,none⟩) Q.cells.length c0)).setCell ⟨B4,1,none⟩ (.slice (some ⟨h1,0,none⟩) Q.hand0.length c1)).setCell ⟨B4,2,none⟩ (.slice (some ⟨h2,0,none⟩) Q.hand1.length c2)).setCell ⟨B4,3,none⟩ (.int .i64 Q.turn)).setCell ⟨B4,4,none⟩ (.int .i64 Q.quiet))=Wf at *
 have rr0 : Wf.cell? ⟨B4,0,none⟩=some (.slice (some ⟨g0,0,none⟩) Q.cells.length c0):=K.cell 0
 have rr1 : Wf.cell? ⟨B4,1,none⟩=some (.slice (some ⟨h1,0,none⟩) Q.hand0.length c1):=K.cell 1
 have rr2 : Wf.cell? ⟨B4,2,none⟩=some (.slice (some ⟨h2,0,none⟩) Q.hand1.length c2):=K.cell 2
 have rr3 : Wf.cell? ⟨B4,3,none⟩=some (.int .i64 Q.turn):=K.cell 3
 have rr4 : Wf.cell? ⟨B4,4,none⟩=some (.int .i64 Q.quiet):=K.cell 4
 refine bodyPost_ret (v:=.tuple #[.agg #[.slice (some ⟨g0,0,none⟩) Q.cells.length c0,.slice (some ⟨h1,0,none⟩) Q.hand0.length c1,.slice (some ⟨h2,0,none⟩) Q.hand1.length c2,.int .i64 Q.turn,.int .i64 Q.quiet],.int .i64 0]) ?_ rfl ?_
 ·simp [results,Tryz.results24,go_sem,rr0,rr1,rr2,rr3,rr4]
 ·exact ⟨_,rfl,⟨g0,c0,h1,c1,h2,c2,rfl,HB.out.1,Q1.out,Q2.out,E0,E1,E2,M.out⟩,X⟩
end Go.Proofs.YtdoibgmmijhlfaaGreat
