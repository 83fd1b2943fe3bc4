/- Put MovesAll MakeAny After Some EqMoves Plays -/
import Derived.Test.YtdoibgmmijhlfaaGreatDoorR09
import Derived.Test.YtdoibgmmijhlfaaGreatDoorR01
import Derived.Test.YtdoibgmmijhlfaaGreatDoorRows
import Derived.ProofKit
import Derived.OpenShut
import Derived.Outline
import Derived.Laws.ResultCell
import Derived.Test.YtdoibgmmijhlfaaGreatDoorR28
import Derived.Test.YtdoibgmmijhlfaaGreatDoorR21
import Derived.Test.YtdoibgmmijhlfaaGreatDoorR29
import Derived.Test.YtdoibgmmijhlfaaGreatDoorR34
import Derived.Test.YtdoibgmmijhlfaaGreatDoorR30
import Derived.Test.YtdoibgmmijhlfaaGreatDoorR31
import Derived.Test.YtdoibgmmijhlfaaGreatDoorR32
import Derived.Test.YtdoibgmmijhlfaaGreatDoorR33
import Derived.Test.YtdoibgmmijhlfaaGreatDoorR27
import Derived.Test.YtdoibgmmijhlfaaGreatDoorR06
import Derived.Test.YtdoibgmmijhlfaaGreatDoorR10
import Derived.Test.YtdoibgmmijhlfaaGreatDoorR04
import Derived.Deep.DeepCutAuto
namespace Go.Proofs.YtdoibgmmijhlfaaGreatDoor
open Go.ChangeShapes Go.WideShapes Go.ChangeAt Go.RowKit
set_option linter.unusedVariables false
theorem put_any (s : Int) (w : World) : Calls Tryz.prog 37 #[.int .i64 s] w fun e w' => e=.returned (.agg #[.int .i64 (-1),.int .i64 s,.int .i64 0])∧Ext w w':=by
 go_enter Tryz.func37,Tryz.ntmps37
 go_wp2
 have k:=Blk.new w 47 #[.int .i64 (-1),.int .i64 s,.int .i64 0]
 have f:=k.cell
 refine bodyPost_ret (v:=.agg #[.int .i64 (-1),.int .i64 s,.int .i64 0]) ?_ rfl ?_
 ·simp [results,Tryz.results37,go_sem,f]
 ·exact ⟨rfl,ext_alloc (Below.refl _ _) _⟩
end Go.Proofs.YtdoibgmmijhlfaaGreatDoor
namespace Go.Proofs.YtdoibgmmijhlfaaGreatDoor
open Go.ChangeShapes Go.WideShapes Go.ChangeAt Go.RowKit Go.Shelf
set_option linter.unusedVariables false
def MovesAt (w : World) (v : Value) (L : List MoveM) : Prop:=∃ A c,v=.slice A L.length c∧CellsAt w A (L.flatMap MoveM.vals)
theorem MovesAt.ext {w w' : World} {v : Value} {L : List MoveM} (h : MovesAt w v L) (he : Ext w w') : MovesAt w' v L:=by
 obtain ⟨A,c,e,h⟩:=h
 exact ⟨A,c,e,h.ext he⟩
theorem OwnM.at_ {w0 w : World} {v : Value} {L : List MoveM} (h : OwnM w0 w v L) : MovesAt w v L:=by
 obtain ⟨A,c,e,h⟩:=h
 exact ⟨A,c,e,(own_cells h).1⟩
theorem moves_get {w : World} {A : Option Addr} {L : List MoveM} (h : CellsAt w A (L.flatMap MoveM.vals)) {k : Nat} {x : MoveM} (hk : L[k]? = some x) :
  ∃ b o,A=some ⟨b,o,none⟩∧w.cell? ⟨b,o + k * 3,none⟩=some (.int .i64 x.src)∧w.cell? ⟨b,o + k * 3 + 1,none⟩=some (.int .i64 x.dst)∧w.cell? ⟨b,o + k * 3 + 2,none⟩=some (.int .i64 x.piece):=by
 have g:=fun j hj => flat_get MoveM.vals 3 (fun _ => rfl) L k j x hk hj
 obtain ⟨b,o,rfl,h0⟩:=h (k * 3 + 0) _ (g 0 (by omega))
 obtain ⟨_,_,e1,h1⟩:=h (k * 3 + 1) _ (g 1 (by omega))
 obtain ⟨_,_,e2,h2⟩:=h (k * 3 + 2) _ (g 2 (by omega))
 simp only [Option.some.injEq,Addr.mk.injEq,and_true] at e1 e2
 obtain ⟨rfl,rfl⟩:=e1
 obtain ⟨rfl,rfl⟩:=e2
 exact ⟨b,o,rfl,h0,h1,h2⟩
def IdxPost (w : World) (L : List MoveM) (m : MoveM) (e : Ending) (w' : World) : Prop:=∃ i : Int,e=.returned (.int .i64 i)∧(0≤i ↔ m ∈ L)∧Ext w w'
set_option maxHeartbeats 2000000 in
set_option maxRecDepth 100000 in
theorem Index_any (L : List MoveM) (m : MoveM) (v : Value) (w : World) (h : MovesAt w v L) (hl : L.length≤1000000) :
  Calls Tryz.prog 85 #[v,.agg #[.int .i64 m.src,.int .i64 m.dst,.int .i64 m.piece]] w (IdxPost w L m):=by
 obtain ⟨A,c,rfl,hc⟩:=h
 obtain ⟨x1,k1⟩:=blks1 w #[.int .i64 m.src,.int .i64 m.dst,.int .i64 m.piece] 47
 have HX:=hide x1
 have HC:=hide (hc.ext x1)
 have HK:=hide k1
 clear hc x1 k1
 go_enter Tryz.func85,Tryz.ntmps85
 go_wp2
 generalize w.alloc (.cells #[.int .i64 m.src,.int .i64 m.dst,.int .i64 m.piece] 47)=w2 at *
 generalize w.heap.size=B1 at *
 go_loopw [5,8] (fun _ i wr => ∃ k q : Nat,k≤L.length∧i=.int .i64 k∧wr=w2.drewN q∧Hid (m ∉ L.take k)) (fun _ i _ => L.length - (intOf i).toNat)
 case atStart => exact ⟨0,0,Nat.zero_le _,rfl,rfl,hide (by simp)⟩
 case round =>
  obtain ⟨k,q,hk,rfl,rfl,hn⟩:=hrel
  by_cases hlt : k < L.length
  ·obtain ⟨y,hy⟩ : ∃ y,L[k]? = some y:=⟨L[k],List.getElem?_eq_getElem _⟩
   obtain ⟨b,o,rfl,y0,y1,y2⟩:=moves_get HC.out hy
   have m0 : w2.cell? ⟨B1,0,none⟩=some (.int .i64 m.src):=HK.out.cell 0
   have m1 : w2.cell? ⟨B1,1,none⟩=some (.int .i64 m.dst):=HK.out.cell 1
   have m2 : w2.cell? ⟨B1,2,none⟩=some (.int .i64 m.piece):=HK.out.cell 2
   have j0 : (0 : Int)≤(k : Int):=by omega
   have j1 : (k : Int) < (L.length : Int):=by omega
   have HT : Hid (L.take (k + 1)=L.take k ++ [y]):=hide (by rw [List.take_add_one,hy]; rfl)
   have HM:=hide (List.mem_of_getElem? hy)
   clear hy
   by_cases hmy : m=y
   ·subst hmy
    go_wp2_with fail
    go_quiet (fail)
    go_wp2
    go_ret
    exact ⟨k,rfl,⟨fun _ => HM.out,fun _ => by omega⟩,ext_drewN (ext_drewN HX.out _) _⟩
   ·have HN : Hid (m ∉ L.take (k + 1)):=hide (by
     rw [HT.out,List.mem_append]
     rintro (h | h)
     ·exact hn.out h
     ·exact hmy (by simpa using h))
    clear hn
    rcases move_ne hmy with h1 | ⟨e1,h1⟩ | ⟨e1,e2,h1⟩
    ·have t1 : (m.src == y.src)=false:=by simpa using h1
     clear h1 hmy
     go_wp2_with fail
     go_quiet (fail)
     go_wp2
     go_roundw
     case rel => exact ⟨k + 1,_,by omega,by go_num,rfl,HN⟩
     case measure => simp [intOf]; omega
    ·have t1 : (m.src == y.src)=true:=by simpa using e1
     have t2 : (m.dst == y.dst)=false:=by simpa using h1
     clear h1 hmy e1
     go_wp2_with fail
     go_quiet (fail)
     go_wp2
     go_roundw
     case rel => exact ⟨k + 1,_,by omega,by go_num,rfl,HN⟩
     case measure => simp [intOf]; omega
    ·have t1 : (m.src == y.src)=true:=by simpa using e1
     have t2 : (m.dst == y.dst)=true:=by simpa using e2
     have t3 : (m.piece == y.piece)=false:=by simpa using h1
     clear h1 hmy e1 e2
     go_wp2_with fail
     go_quiet (fail)
     go_wp2
     go_roundw
     case rel => exact ⟨k + 1,_,by omega,by go_num,rfl,HN⟩
     case measure => simp [intOf]; omega
  ·obtain rfl : k=L.length:=by omega
   go_wp2
   go_ret
   refine ⟨-1,rfl,⟨fun h => by omega,fun h => ?_⟩,ext_drewN HX.out _⟩
   have:=hn.out
   rw [List.take_length] at this
   exact absurd h this
theorem Contains_any (L : List MoveM) (m : MoveM) (v : Value) (w : World) (h : MovesAt w v L) (hl : L.length≤1000000) :
  Calls Tryz.prog 48 #[v,.agg #[.int .i64 m.src,.int .i64 m.dst,.int .i64 m.piece]] w fun e w' => e=.returned (.bool (decide (m ∈ L)))∧Ext w w':=by
 obtain ⟨x1,k1⟩:=blks1 w #[.int .i64 m.src,.int .i64 m.dst,.int .i64 m.piece] 47
 have HI:=hide (Index_any L m v _ (h.ext x1) hl)
 have HX:=hide x1
 obtain ⟨A,c,rfl,-⟩:=h
 clear x1
 have f1:=k1.cell
 obtain ⟨bb,hbb⟩ : ∃ bb,bb=decide (m ∈ L):=⟨_,rfl⟩
 have HB:=hide hbb
 rw [← hbb]
 clear hbb
 go_enter Tryz.func48,Tryz.ntmps48
 go_wp2_with fail
 refine HI.out.mono ?_
 rintro e w2 ⟨i,rfl,hi,x2⟩
 have HII:=hide hi
 have X2:=hide x2
 clear hi x2 f1 k1
 go_wp2
 go_ret
 exact ⟨by rw [HB.out,← decide_eq_decide.2 HII.out]; rfl,ext_trans HX.out X2.out⟩
theorem listM_len {R : RulesM} {P : PosM} (hV : Valid R) (hS : Sound R P) : (listM R P).length≤1000000:=by
 have h1:=listOf_eq (l:=rawM R P) (fun x => sortM_mem) (sortM_sorted _)
 have h2:=dedup_le (sortM (rawM R P))
 have h3:=putsM_len hV hS
 have h4:=stepsToM_len (P:=P) hV P.cells.length
 have har:=area_bd _ _ hV.side
 have ha:=hS.area
 rw [h1,sortM_length] at h2
 unfold rawM at h2
 rw [List.length_append] at h2
 unfold listM rawM
 omega
def AllPost (w : World) (L : List MoveM) (e : Ending) (w' : World) : Prop:=∃ v',e=.returned (.tuple #[v',.int .i64 0])∧OwnM w w' v' L∧Ext w w'
set_option maxHeartbeats 2000000 in
set_option maxRecDepth 100000 in
theorem All_yes (R : RulesM) (P : PosM) (v u : Value) (w : World) (hR : RulesAt w v R) (hP : PosAt w u P) (hV : Valid R) (hS : Sound R P) :
  Calls Tryz.prog 10 #[v,u] w (AllPost w (listM R P)):=by
 have h0:=check_iff.2 ⟨hV,hS⟩
 have HC:=hide (fun W (hW : Ext w W) => h0 ▸ PCheck_any R P v u W (hR.ext hW) (hP.ext hW))
 have HL:=hide (fun W (hW : Ext w W) => List_any R P v u W (hR.ext hW) (hP.ext hW) hV hS)
 obtain ⟨pA,pc,sA,sc,eA,ec,rfl,-⟩:=hR
 obtain ⟨cA,cc,aA,ac,bA,bc,rfl,-⟩:=hP
 clear h0 hV hS
 obtain ⟨x1,k1,k2⟩:=blks2 w #[.string R.name,.int .i64 R.width,.int .i64 R.height,.slice pA R.pieces.length pc,.slice sA R.start.length sc,.bool R.falls,.bool R.keeps,.slice eA R.ends.length ec,.int .i64 R.blocked,.int .i64 R.quiet,.int .i64 R.rept] 26 #[.slice cA P.cells.length cc,.slice aA P.hand0.length ac,.slice bA P.hand1.length bc,.int .i64 P.turn,.int .i64 P.quiet] 43
 have HX:=hide x1
 have K1:=hide k1
 have K2:=hide k2
 clear x1 k1 k2
 have f1:=K1.out.cell
 have f2:=K2.out.cell
 go_enter Tryz.func10,Tryz.ntmps10
 go_wp2_with fail
 refine (HC.out _ HX.out).mono ?_
 rintro e w2 ⟨rfl,x2⟩
 have X2:=hide (ext_trans HX.out x2)
 have g1:=(K1.out.ext x2).cell
 have g2:=(K2.out.ext x2).cell
 clear f1 f2 x2
 go_wp2_with fail
 refine (HL.out _ X2.out).mono ?_
 rintro e w3 ⟨v3,rfl,own3,x3⟩
 have O3:=hide own3
 have X3:=hide x3
 clear g1 g2 own3 x3
 go_wp2
 go_ret2
 exact ⟨_,rfl,O3.out.base X2.out,ext_trans X2.out X3.out⟩
end Go.Proofs.YtdoibgmmijhlfaaGreatDoor
namespace Go.Proofs.YtdoibgmmijhlfaaGreatDoor
open Go.ChangeShapes Go.WideShapes Go.ChangeAt Go.RowKit Go.Shelf
set_option linter.unusedVariables false
theorem Make_put (R : RulesM) (P : PosM) (v u : Value) (d q : Nat) (w : World) (hR : RulesAt w v R) (hP : PosAt w u P) (hV : Valid R) (hS : Sound R P) (hm : CanPut R P d q) :
  Calls Tryz.prog 49 #[v,u,.agg #[.int .i64 (-1),.int .i64 (d : Int),.int .i64 (q : Int)]] w (MakePost w (makeM R P ⟨-1,d,q⟩)):=by
 rcases hS.turn with h | h
 ·exact make_put0 R P v u d q w hR hP hV hS h hm
 ·exact make_put1 R P v u d q w hR hP hV hS h hm
theorem Make_step (R : RulesM) (P : PosM) (v u : Value) (s d q : Nat) (w : World) (hR : RulesAt w v R) (hP : PosAt w u P) (hV : Valid R) (hS : Sound R P) (hm : CanStep R P s d q) :
  Calls Tryz.prog 49 #[v,u,.agg #[.int .i64 (s : Int),.int .i64 (d : Int),.int .i64 (q : Int)]] w (MakePost w (makeM R P ⟨s,d,q⟩)):=by
 have hb : 0≤P.cells.getD d 0:=(hS.cells _ (by simp [hm.dst])).1
 by_cases hz : P.cells.getD d 0=0
 ·rcases hS.turn with h | h
  ·exact make_free0 R P v u s d q w hR hP hV hS h hm hz
  ·exact make_free1 R P v u s d q w hR hP hV hS h hm hz
 ·have hz' : 0 < P.cells.getD d 0:=by omega
  cases hk : R.keeps
  ·rcases hS.turn with h | h
   ·exact make_take0 R P v u s d q w hR hP hV hS h hm hz' hk
   ·exact make_take1 R P v u s d q w hR hP hV hS h hm hz' hk
  ·rcases hS.turn with h | h
   ·exact make_keep0 R P v u s d q w hR hP hV hS h hm hz' hk
   ·exact make_keep1 R P v u s d q w hR hP hV hS h hm hz' hk
end Go.Proofs.YtdoibgmmijhlfaaGreatDoor
namespace Go.Proofs.YtdoibgmmijhlfaaGreatDoor
open Go.ChangeShapes Go.WideShapes Go.ChangeAt Go.RowKit Go.Shelf
set_option linter.unusedVariables false
theorem Make_any (R : RulesM) (P : PosM) (m : MoveM) (v u : Value) (w : World) (hR : RulesAt w v R) (hP : PosAt w u P) (hV : Valid R) (hS : Sound R P) (hm : m ∈ rawM R P) :
  Calls Tryz.prog 49 #[v,u,.agg #[.int .i64 m.src,.int .i64 m.dst,.int .i64 m.piece]] w (MakePost w (makeM R P m)):=by
 rcases rawM_cases hV hS hm with ⟨d,q,rfl,hc,-⟩ | ⟨s,d,q,rfl,hc,-,-⟩
 ·exact Make_put R P v u d q w hR hP hV hS hc
 ·exact Make_step R P v u s d q w hR hP hV hS hc
end Go.Proofs.YtdoibgmmijhlfaaGreatDoor
namespace Go.Proofs.YtdoibgmmijhlfaaGreatDoor
open Go.ChangeShapes Go.WideShapes Go.ChangeAt Go.RowKit Go.Shelf
set_option linter.unusedVariables false
theorem some_idx {n l : Int} (hl : 1≤l) : -l < n.tmod l∧n.tmod l < l∧0≤(n.tmod l + l).tmod l∧(n.tmod l + l).tmod l < l:=by
 have h1 : -l < n.tmod l∧n.tmod l < l:=by
  have a:=Int.tmod_lt_of_pos n (show 0 < l by omega)
  refine ⟨?_,a⟩
  have b:=Int.tmod_lt_of_pos (-n) (show 0 < l by omega)
  rw [Int.neg_tmod] at b
  omega
 refine ⟨h1.1,h1.2,Int.tmod_nonneg _ (by omega),Int.tmod_lt_of_pos _ (by omega)⟩
end Go.Proofs.YtdoibgmmijhlfaaGreatDoor
namespace Go.Proofs.YtdoibgmmijhlfaaGreatDoor
open Go.ChangeShapes Go.WideShapes Go.ChangeAt Go.RowKit Go.Shelf
set_option linter.unusedVariables false
set_option maxHeartbeats 2000000 in
set_option maxRecDepth 100000 in
theorem EqMoves_yes (L : List MoveM) (v u : Value) (w : World) (h : MovesAt w v L) (h' : MovesAt w u L) (hl : L.length≤1000000) :
  Calls Tryz.prog 12 #[v,u] w fun e w' => e=.returned (.bool true)∧Ext w w':=by
 obtain ⟨A,c,rfl,hc⟩:=h
 obtain ⟨A2,c2,rfl,hc2⟩:=h'
 have HC:=hide hc
 have HC2:=hide hc2
 clear hc hc2
 go_enter Tryz.func12,Tryz.ntmps12
 go_wp2
 go_loopw [13] (fun i wr => ∃ k q : Nat,k≤L.length∧i=.int .i64 k∧wr=w.drewN q) (fun i _ => L.length - (intOf i).toNat)
 case atStart => exact ⟨0,0,Nat.zero_le _,rfl,rfl⟩
 case round =>
  obtain ⟨k,q,hk,rfl,rfl⟩:=hrel
  by_cases hlt : k < L.length
  ·obtain ⟨y,hy⟩ : ∃ y,L[k]? = some y:=⟨L[k],List.getElem?_eq_getElem _⟩
   obtain ⟨b,o,rfl,y0,y1,y2⟩:=moves_get HC.out hy
   obtain ⟨b',o',rfl,z0,z1,z2⟩:=moves_get HC2.out hy
   have j0 : (0 : Int)≤(k : Int):=by omega
   have j1 : (k : Int) < (L.length : Int):=by omega
   clear hy
   go_wp2_with fail
   go_quiet (fail)
   go_wp2
   go_roundw
   case rel => exact ⟨k + 1,_,by omega,by go_num,rfl⟩
   case measure => simp [intOf]; omega
  ·obtain rfl : k=L.length:=by omega
   go_wp2
   go_ret
   exact ⟨rfl,ext_drewN (Below.refl _ _) _⟩
end Go.Proofs.YtdoibgmmijhlfaaGreatDoor
namespace Go.Proofs.YtdoibgmmijhlfaaGreatDoor
open Go.ChangeShapes Go.WideShapes Go.ChangeAt Go.RowKit Go.Shelf
set_option linter.unusedVariables false
theorem sound_begin {R : RulesM} (hV : Valid R) : Sound R (beginP R):=by
 refine ⟨hV.area,by simp [beginP],by simp [beginP],hV.start,?_,?_,.inl rfl,by show (0 : Int)≤0∧(0 : Int)≤200; omega⟩
 all_goals
  intro c hc
  obtain ⟨p,hp,rfl⟩:=List.mem_map.1 hc
  have:=(piece_facts hV.piece hp).2.1
  omega
end Go.Proofs.YtdoibgmmijhlfaaGreatDoor
