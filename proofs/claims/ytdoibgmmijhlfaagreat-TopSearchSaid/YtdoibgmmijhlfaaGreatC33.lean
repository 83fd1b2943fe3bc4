/- EndsW3 PerftW PerftW2 -/
import Derived.Test.YtdoibgmmijhlfaaGreatC26
import Derived.Test.YtdoibgmmijhlfaaGreatC32
namespace Go.Proofs.YtdoibgmmijhlfaaGreat
open Go.ChangeShapes Go.WideShapes Go.ChangeAt Go.RowKit Go.Shelf
set_option linter.unusedVariables false
def FirstIdx(es:List EndM)(p:EndM→Bool)(r:Int):Prop:=(r=-1∧∀ x∈es,p x=false)∨(∃ (k:Nat) (x:EndM),r=(k:Int)∧es[k]? = some x∧p x=true∧∀ j,j<k→∀ y,es[j]? = some y→p y=false)
def IdxEPost(w:World)(es:List EndM)(p:EndM→Bool)(e:Ending)(w':World):Prop:=∃ r,FirstIdx es p r∧e=.returned (.int .i64 r)∧Ext w w'
theorem find_first{p:EndM→Bool}:∀ {es:List EndM} {k:Nat} {x:EndM},es[k]? = some x→p x=true→(∀ j,j<k→∀ y,es[j]? = some y→p y=false)→es.find? p=some x
 | [],k,x,h,_,_=>by simp at h
 | a :: l,0,x,h,hp,_=>by
  simp only [List.getElem?_cons_zero,Option.some.injEq] at h
  subst h
  rw [List.find?_cons,hp]
 | a :: l,k+1,x,h,hp,hn=>by
  have ha:=hn 0 (by omega) a rfl
  rw [List.find?_cons,ha]
  exact find_first (es:=l) (k:=k) (by simpa using h) hp (fun j hj y hy=>hn (j+1) (by omega) y (by simpa using hy))
theorem find_none{p:EndM→Bool}{es:List EndM}(h:∀ x∈es,p x=false):es.find? p=none:=by
 rw [List.find?_eq_none]
 intro x hx
 simp [h x hx]
set_option maxHeartbeats 2000000 in
theorem idxEnds(cl:FuncId)(c0_ c1_ c2_:Value)(p:EndM→Bool)(A:Option Addr)(c:Nat)(es:List EndM)(w:World)(hm:es.length≤1000000)(hz:EndsAt w A es)
  (eg:∀ args W,(callFunc cl args).run Crz.prog W=.ok (.enter cl args) W) (hcl:∀ x∈es,∀ W,Ext w W→Calls Crz.prog cl #[.agg #[.int .i64 x.kind,.int .i64 x.piece,.int .i64 x.count,.bool x.loses],c0_,c1_,c2_] W fun e w'=>e=.returned (.bool (p x))∧Ext W w') :
  Calls Crz.prog 74 #[.slice A es.length c,.func (.func cl) #[] #[c0_,c1_,c2_]] w (IdxEPost w es p):=by
 have HC:=hide hcl
 have HZ:=hide hz
 clear hcl hz
 go_enter Crz.func74,Tryz.ntmps74
 go_wp2
 go_loopw [5,8] (fun _ i wr=>∃ k:Nat,k≤es.length∧i=.int .i64 k∧Hid (∀ j,j<k→∀ y,es[j]? = some y→p y=false)∧Ext w wr) (fun _ i _=>es.length-(intOf i).toNat)
 case atStart=>exact⟨0,Nat.zero_le _,rfl,hide (fun j hj=>by omega),Below.refl _ _⟩
 case round =>
  obtain⟨k,hk,rfl,hall,hext⟩:=hrel
  have XO:=hide hext
  clear hext
  by_cases hlt:k<es.length
  ·obtain⟨x,hx⟩:∃ x,es[k]? = some x:=⟨es[k],List.getElem?_eq_getElem _⟩
   obtain⟨b,o,rfl,d0,d1,d2,d3⟩:=EndsAt.get (CellsAt.ext HZ.out XO.out) hx
   have HXX:=hide hx
   have HCALL:=hide (HC.out x (List.mem_of_getElem? hx) wr XO.out)
   have j0:(0:Int)≤(k:Int):=by omega
   have j1:(k:Int)<(es.length:Int):=by omega
   clear hx
   go_wp2_with fail
   refine HCALL.out.mono ?_
   rintro e w1 ⟨rfl,y1⟩
   have Y1:=hide (qT XO.out y1)
   clear y1 d0 d1 d2 d3
   cases hp:p x
   ·have HN:Hid (∀ j,j<k+1→∀ y,es[j]? = some y→p y=false):=hide (fun j hj y hy=>by
     rcases(by omega:j<k∨j=k) with h | h
     ·exact hall.out j h y hy
     ·subst h
      have:=HXX.out
      rw [hy] at this
      injection this with this
      rw [this];exact hp)
    clear hp
    go_wp2
    go_roundw
    case rel=>exact⟨k+1,by omega,by go_num,HN,Y1.out⟩
    case measure=>simp [intOf];omega
   ·have HP:=hide hp
    clear hp
    go_wp2
    go_ret
    exact⟨k,.inr ⟨k,x,rfl,HXX.out,HP.out,hall.out⟩,rfl,Y1.out⟩
  ·obtain rfl:k=es.length:=by omega
   go_wp2
   go_ret
   exact⟨-1,.inl ⟨rfl,fun x hx=>by
    obtain⟨j,hj,rfl⟩:=List.mem_iff_getElem.1 hx
    exact hall.out j hj _ (List.getElem?_eq_getElem hj)⟩,rfl,XO.out⟩
theorem wins_any(p:Int)(w:World)(h0:0≤p)(h1:p≤1):Calls Crz.prog 77 #[.int .i64 p] w fun e w'=>e=.returned (.int .i64 (1+p))∧w=w':=by
 go_enter Crz.func77,Tryz.ntmps77
 go_wp2
 go_ret
 exact⟨rfl,rfl⟩
set_option maxHeartbeats 2000000 in
set_option maxRecDepth 100000 in
theorem rclo_any(R:RM)(P:PosM)(p:Int)(x:EndM)(pA sA eA cA aA bA:Option Addr)(pc sc ec cc ac bc B1 B2 B3:Nat)(w:World)
  (hR:RA w (.agg #[.string R.name,.int .i64 R.width,.int .i64 R.height,.slice pA R.pieces.length pc,.slice sA R.start.length sc,.bool R.falls,.bool R.keeps,.slice eA R.ends.length ec,.int .i64 R.blocked,.int .i64 R.quiet,.int .i64 R.rept]) R) (hP:PA w (.agg #[.slice cA P.cells.length cc,.slice aA P.hand0.length ac,.slice bA P.hand1.length bc,.int .i64 P.turn,.int .i64 P.quiet]) P) (hV:Valid R) (hS:Sound R P) (hp:p=0∨p=1) (hx:x∈R.ends)
  (k1:Blk w B1 26 #[.string R.name,.int .i64 R.width,.int .i64 R.height,.slice pA R.pieces.length pc,.slice sA R.start.length sc,.bool R.falls,.bool R.keeps,.slice eA R.ends.length ec,.int .i64 R.blocked,.int .i64 R.quiet,.int .i64 R.rept]) (k2:Blk w B2 29 #[.slice cA P.cells.length cc,.slice aA P.hand0.length ac,.slice bA P.hand1.length bc,.int .i64 P.turn,.int .i64 P.quiet]) (k3:Blk w B3 3 #[.int .i64 p]) :
  Calls Crz.prog 75 #[.agg #[.int .i64 x.kind,.int .i64 x.piece,.int .i64 x.count,.bool x.loses],.pointer (some ⟨B1,0,none⟩),.pointer (some ⟨B2,0,none⟩),.pointer (some ⟨B3,0,none⟩)] w
   fun e w'=>e=.returned (.bool (holdsB R P p x))∧Ext w w':=by
 have HH:=hide (fun W (hW:Ext w W)=>holds_any R P p x _ _ W (hR.ext hW) (hP.ext hW) hV hS hp hx)
 obtain⟨x1,k4⟩:=blks1 w #[.int .i64 x.kind,.int .i64 x.piece,.int .i64 x.count,.bool x.loses] 75
 have f1:=(k1.ext x1).cell
 have f2:=(k2.ext x1).cell
 have f3:=(k3.ext x1).cell
 have f4:=k4.cell
 have HX:=hide x1
 clear hR hP hV hS hp hx k1 k2 k3 k4 x1
 generalize holdsB R P p x=b at *
 go_enter Crz.func75,Tryz.ntmps75
 go_wp2_with fail
 refine(HH.out _ HX.out).mono ?_
 rintro e w2 ⟨rfl,x2⟩
 clear f1 f2 f3 f4
 go_wp2
 go_ret
 exact⟨rfl,qT HX.out x2⟩
set_option maxHeartbeats 8000000 in
set_option maxRecDepth 100000 in
theorem Result_any(R:RM)(P:PosM)(v u:Value)(w:World)(hR:RA w v R)(hP:PA w u P)(hV:Valid R)(hS:Sound R P) :
  Calls Crz.prog 44 #[v,u] w fun e w'=>e=.returned (.int .i64 (rM R P))∧Ext w w':=by
 have ht:=hS.turn
 have ht0:0≤P.turn:=by omega
 have ht1:P.turn≤1:=by omega
 have h6:=hV.ends6
 have HL:=hide (fun W (hW:Ext w W)=>List_any R P v u W (hR.ext hW) (hP.ext hW) hV hS)
 have HLL:=hide (listM_len hV hS)
 obtain⟨pA,pc,sA,sc,eA,ec,rfl,hp1,hp2,he,hrest⟩:=hR
 obtain⟨cA,cc,aA,ac,bA,bc,rfl,hpos⟩:=hP
 have hR:RA w (.agg #[.string R.name,.int .i64 R.width,.int .i64 R.height,.slice pA R.pieces.length pc,.slice sA R.start.length sc,.bool R.falls,.bool R.keeps,.slice eA R.ends.length ec,.int .i64 R.blocked,.int .i64 R.quiet,.int .i64 R.rept]) R:=⟨pA,pc,sA,sc,eA,ec,rfl,hp1,hp2,he,hrest⟩
 have hP:PA w (.agg #[.slice cA P.cells.length cc,.slice aA P.hand0.length ac,.slice bA P.hand1.length bc,.int .i64 P.turn,.int .i64 P.quiet]) P:=⟨cA,cc,aA,ac,bA,bc,rfl,hpos⟩
 have HCL:=hide (fun (x:EndM) (hx:x∈R.ends) B1 B2 B3 W (hW:Ext w W) k1 k2 k3=>rclo_any R P (1-P.turn) x pA sA eA cA aA bA pc sc ec cc ac bc B1 B2 B3 W (hR.ext hW) (hP.ext hW) hV hS (by omega) hx k1 k2 k3)
 have HE:=hide he
 obtain⟨x1,k1,k2,k3⟩:=blks3 w #[.string R.name,.int .i64 R.width,.int .i64 R.height,.slice pA R.pieces.length pc,.slice sA R.start.length sc,.bool R.falls,.bool R.keeps,.slice eA R.ends.length ec,.int .i64 R.blocked,.int .i64 R.quiet,.int .i64 R.rept] 26 #[.slice cA P.cells.length cc,.slice aA P.hand0.length ac,.slice bA P.hand1.length bc,.int .i64 P.turn,.int .i64 P.quiet] 29 #[.int .i64 (1-P.turn)] 3
 have f1:=k1.cell
 have f2:=k2.cell
 have HX:=hide x1
 have K1:=hide k1
 have K2:=hide k2
 have K3:=hide k3
 have HE2:=hide (show EndsAt _ eA R.ends from CellsAt.ext HE.out x1)
 clear hp1 hp2 he hrest hpos hR hP hV hS ht x1 k1 k2 k3
 go_enter Crz.func44,Tryz.ntmps44
 go_wp2_with fail
 generalize ((w.alloc _).alloc _).alloc _=w2 at *
 generalize w.heap.size+1+1=B3 at *
 generalize w.heap.size+1=B2 at *
 generalize hB1:w.heap.size=B1 at *
 have HB1:=hide hB1
 clear hB1 f1 f2
 refine(idxEnds 75 _ _ _ (holdsB R P (1-P.turn)) eA ec R.ends w2 (by omega) HE2.out (enters_of Crz.func75 (by kernel_rfl) rfl) (fun x hx W hW=>HCL.out x hx B1 B2 B3 W (qT HX.out hW) (K1.out.ext hW) (K2.out.ext hW) (K3.out.ext hW))).mono ?_
 rintro e w3 ⟨r,hr,rfl,x3⟩
 have X3:=hide (qT HX.out x3)
 have l1:=(K1.out.ext x3)
 have l2:=(K2.out.ext x3)
 have l3:=(K3.out.ext x3)
 have f1:=l1.cell
 have f2:=l2.cell
 have f3:=l3.cell
 rcases hr with ⟨rfl,hno⟩ | ⟨k,x,rfl,hk,hp,hn⟩
 ·have HR:=hide (show rM R P=restM R P by unfold rM;rw [find_none hno])
  have L1:=hide l1
  have L2:=hide l2
  have L3:=hide l3
  clear hno x3 l1 l2 l3
  by_cases hq:R.quiet=0
  ·have tq:(R.quiet != 0)=false:=by simpa using hq
   have HR2:=hide (show rM R P=_ from HR.out.trans (by unfold restM;rw [if_neg (fun h=>h.1 hq)]))
   clear HR hq
   go_wp2_with fail
   refine(HL.out _ X3.out).mono ?_
   rintro e w4 ⟨v4,rfl,own4,x4⟩
   have X4:=hide (qT X3.out x4)
   have m1:=(L1.out.ext x4).cell
   have m2:=(L2.out.ext x4).cell
   have m3:=(L3.out.ext x4).cell
   obtain⟨A4,c4,rfl,-⟩:=own4
   have hll:=HLL.out
   clear f1 f2 f3 x4 L1 L2 L3 HL HLL
   generalize listM R P=L at *
   by_cases hl:0<L.length
   ·have HR3:=hide (show rM R P=0 by rw [HR2.out,if_pos hl])
    have tl:decide (0<L.length)=true:=by simpa using hl
    have tl2:decide ((0:Int)<(L.length:Int))=true:=decide_eq_true (by omega)
    clear HR2
    go_wp2
    go_ret
    exact⟨by rw [HR3.out];rfl,X4.out⟩
   ·have HR3:=hide (HR2.out.trans (if_neg hl))
    have tl:decide (0<L.length)=false:=by simpa using hl
    have tl2:decide ((0:Int)<(L.length:Int))=false:=decide_eq_false (by omega)
    clear HR2
    by_cases hb:R.blocked=0
    ·have HR4:=hide (HR3.out.trans (if_pos hb))
     have tb:(R.blocked == 0)=true:=by simpa using hb
     clear HR3 hb hl
     go_wp2_with fail
     refine(wins_any _ _ (by omega) (by omega)).mono ?_
     rintro e w' ⟨rfl,rfl⟩
     go_wp2
     go_ret
     exact⟨by rw [HR4.out];rfl,X4.out⟩
    ·have HR4:=hide (HR3.out.trans (if_neg hb))
     have tb:(R.blocked == 0)=false:=by simpa using hb
     clear HR3 hb hl
     by_cases hb:R.blocked=1
     ·have HR5:=hide (HR4.out.trans (if_pos hb))
      have tb1:(R.blocked == 1)=true:=by simpa using hb
      clear HR4 hb
      go_wp2_with fail
      refine(wins_any _ _ (by omega) (by omega)).mono ?_
      rintro e w' ⟨rfl,rfl⟩
      go_wp2
      go_ret
      exact⟨by rw [HR5.out];rfl,X4.out⟩
     ·have HR5:=hide (HR4.out.trans (if_neg hb))
      have tb1:(R.blocked == 1)=false:=by simpa using hb
      clear HR4 hb
      go_wp2
      go_ret
      exact⟨by rw [HR5.out];rfl,X4.out⟩
  ·have tq:(R.quiet != 0)=true:=by simpa using hq
   by_cases hle:R.quiet≤P.quiet
   ·have HR2:=hide (show rM R P=3 from HR.out.trans (by unfold restM;rw [if_pos ⟨hq,hle⟩]))
    clear HR hq
    go_wp2
    go_ret
    exact⟨by rw [HR2.out];rfl,X3.out⟩
   ·have HR2:=hide (show rM R P=_ from HR.out.trans (by unfold restM;rw [if_neg (fun h=>hle h.2)]))
    have hlt:P.quiet<R.quiet:=by omega
    clear HR hq hle
    go_wp2_with fail
    refine(HL.out _ X3.out).mono ?_
    rintro e w4 ⟨v4,rfl,own4,x4⟩
    have X4:=hide (qT X3.out x4)
    have m1:=(L1.out.ext x4).cell
    have m2:=(L2.out.ext x4).cell
    have m3:=(L3.out.ext x4).cell
    obtain⟨A4,c4,rfl,-⟩:=own4
    have hll:=HLL.out
    clear f1 f2 f3 x4 L1 L2 L3 HL HLL
    generalize listM R P=L at *
    by_cases hl:0<L.length
    ·have HR3:=hide (show rM R P=0 by rw [HR2.out,if_pos hl])
     have tl:decide (0<L.length)=true:=by simpa using hl
     have tl2:decide ((0:Int)<(L.length:Int))=true:=decide_eq_true (by omega)
     clear HR2
     go_wp2
     go_ret
     exact⟨by rw [HR3.out];rfl,X4.out⟩
    ·have HR3:=hide (HR2.out.trans (if_neg hl))
     have tl:decide (0<L.length)=false:=by simpa using hl
     have tl2:decide ((0:Int)<(L.length:Int))=false:=decide_eq_false (by omega)
     clear HR2
     by_cases hb:R.blocked=0
     ·have HR4:=hide (HR3.out.trans (if_pos hb))
      have tb:(R.blocked == 0)=true:=by simpa using hb
      clear HR3 hb hl
      go_wp2_with fail
      refine(wins_any _ _ (by omega) (by omega)).mono ?_
      rintro e w' ⟨rfl,rfl⟩
      go_wp2
      go_ret
      exact⟨by rw [HR4.out];rfl,X4.out⟩
     ·have HR4:=hide (HR3.out.trans (if_neg hb))
      have tb:(R.blocked == 0)=false:=by simpa using hb
      clear HR3 hb hl
      by_cases hb:R.blocked=1
      ·have HR5:=hide (HR4.out.trans (if_pos hb))
       have tb1:(R.blocked == 1)=true:=by simpa using hb
       clear HR4 hb
       go_wp2_with fail
       refine(wins_any _ _ (by omega) (by omega)).mono ?_
       rintro e w' ⟨rfl,rfl⟩
       go_wp2
       go_ret
       exact⟨by rw [HR5.out];rfl,X4.out⟩
      ·have HR5:=hide (HR4.out.trans (if_neg hb))
       have tb1:(R.blocked == 1)=false:=by simpa using hb
       clear HR4 hb
       go_wp2
       go_ret
       exact⟨by rw [HR5.out];rfl,X4.out⟩
 ·have HR:=hide (show rM R P=if x.loses then 1+P.turn else 1+(1-P.turn) by unfold rM;rw [find_first hk hp hn])
  obtain⟨b,o,rfl,-,-,-,d3⟩:=EndsAt.get (CellsAt.ext HE2.out x3) hk
  have hkl:k<R.ends.length:=(List.getElem?_eq_some_iff.1 hk).1
  have j0:(0:Int)≤(k:Int):=by omega
  have j1:(k:Int)<(R.ends.length:Int):=by omega
  clear hk hp hn x3 l1 l2 l3 hkl
  cases hl:x.loses
  ·rw [hl] at d3
   have HR2:=hide (show rM R P=1+(1-P.turn) by rw [HR.out,hl];rfl)
   clear hl HR
   go_wp2_with fail
   refine(wins_any _ _ (by omega) (by omega)).mono ?_
   rintro e w' ⟨rfl,rfl⟩
   go_wp2
   go_ret
   exact⟨by rw [HR2.out];rfl,X3.out⟩
  ·rw [hl] at d3
   have HR2:=hide (show rM R P=1+P.turn by rw [HR.out,hl];rfl)
   clear hl HR
   go_wp2_with fail
   refine(wins_any _ _ (by omega) (by omega)).mono ?_
   rintro e w' ⟨rfl,rfl⟩
   go_wp2
   go_ret
   exact⟨by rw [HR2.out];rfl,X3.out⟩
end Go.Proofs.YtdoibgmmijhlfaaGreat
namespace Go.Proofs.YtdoibgmmijhlfaaGreat
open Go.ChangeShapes Go.WideShapes Go.ChangeAt Go.RowKit Go.Shelf
set_option linter.unusedVariables false
set_option linter.unusedSimpArgs false
def EMovesPost(w:World)(L:List MM)(e:Ending)(w':World):Prop:=∃ v',e=.returned v'∧OwnM w w' v' L∧Ext w w'
set_option maxHeartbeats 2000000 in
set_option maxRecDepth 100000 in
theorem EMoves_any(R:RM)(P:PosM)(v u:Value)(w:World)(hR:RA w v R)(hP:PA w u P)(hV:Valid R)(hS:Sound R P) :
  Calls Crz.prog 51 #[v,u] w (EMovesPost w (movesM R P)):=by
 have HC:=hide (fun W (hW:Ext w W)=>Result_any R P v u W (hR.ext hW) (hP.ext hW) hV hS)
 have HL:=hide (fun W (hW:Ext w W)=>List_any R P v u W (hR.ext hW) (hP.ext hW) hV hS)
 obtain⟨pA,pc,sA,sc,eA,ec,rfl,-⟩:=hR
 obtain⟨cA,cc,aA,ac,bA,bc,rfl,-⟩:=hP
 have HM:=hide (show movesM R P=if rM R P=0 then listM R P else [] from rfl)
 clear hV hS
 generalize movesM R P=L at *
 generalize rM R P=z at *
 obtain⟨x1,k1,k2⟩:=blks2 w #[.string R.name,.int .i64 R.width,.int .i64 R.height,.slice pA R.pieces.length pc,.slice sA R.start.length sc,.bool R.falls,.bool R.keeps,.slice eA R.ends.length ec,.int .i64 R.blocked,.int .i64 R.quiet,.int .i64 R.rept] 26 #[.slice cA P.cells.length cc,.slice aA P.hand0.length ac,.slice bA P.hand1.length bc,.int .i64 P.turn,.int .i64 P.quiet] 29
 have HX:=hide x1
 have K1:=hide k1
 have K2:=hide k2
 clear x1 k1 k2
 have f1:=K1.out.cell
 have f2:=K2.out.cell
 go_enter Crz.func51,Tryz.ntmps51
 go_wp2_with fail
 refine(HC.out _ HX.out).mono ?_
 rintro e w2 ⟨rfl,x2⟩
 have X2:=hide (qT HX.out x2)
 have g1:=(K1.out.ext x2).cell
 have g2:=(K2.out.ext x2).cell
 clear f1 f2 x2
 by_cases hz:z=0
 ·have HM2:=hide (HM.out.trans (if_pos hz))
  clear HM
  subst hz
  go_wp2_with fail
  refine(HL.out _ X2.out).mono ?_
  rintro e w3 ⟨v3,rfl,own3,x3⟩
  have O3:=hide (own3.base X2.out)
  have X3:=hide x3
  clear g1 g2 x3 own3
  go_wp2
  go_ret
  exact⟨_,rfl,by rw [HM2.out];exact O3.out,qT X2.out X3.out⟩
 ·have HM2:=hide (HM.out.trans (if_neg hz))
  have t0:(z != 0)=true:=by simpa using hz
  clear HM hz g1 g2
  go_wp2
  go_ret
  exact⟨.slice none 0 0,rfl,by rw [HM2.out];exact OwnM.nil _ _,X2.out⟩
def Gr(B:Nat)(w w':World):Prop:=w.grownBy w' (some B)
section
variable {B:Nat}{a b c:World}
theorem Gr.refl(a:World):Gr B a a:=⟨rfl,rfl,rfl,Nat.le_refl _,fun _ _ _=>rfl⟩
theorem Gr.trans(h:Gr B a b)(k:Gr B b c):Gr B a c :=
 ⟨k.os.trans h.os,k.tape.trans h.tape,k.output.trans h.output,Nat.le_trans h.size k.size,fun g hg hn=>(k.block g (Nat.lt_of_lt_of_le hg h.size) hn).trans (h.block g hg hn)⟩
theorem Gr.of_ext(h:Ext a b):Gr B a b:=⟨h.os,h.tape,h.output,h.size,fun g hg _=>h.block g hg⟩
theorem Gr.ext(h:Gr B a b)(k:Ext b c):Gr B a c:=h.trans (Gr.of_ext k)
theorem Gr.set(h:Gr B a b)(i:Nat)(u:Value):Gr B a (b.setCell ⟨B,i,none⟩ u) :=
 ⟨h.os,h.tape,h.output,by simpa using h.size,fun g hg hn=>(Below.heap_setCell b _ u g (by rintro rfl;exact hn rfl)).trans (h.block g hg hn)⟩
theorem Gr.blk{g:Nat}{t:TypeId}{cs:Array Value}(h:Gr B a b)(k:Blk a g t cs)(hne:g≠B):Blk b g t cs:=(h.block g k.lt (by simpa using hne)).trans k
theorem Gr.to_ext{w0:World}(h:Gr B a b)(h0:Ext w0 a)(hb:w0.heap.size≤B):Ext w0 b :=
 ⟨h.os.trans h0.os,h.tape.trans h0.tape,h.output.trans h0.output,Nat.le_trans h0.size h.size,fun g hg=>(h.block g (Nat.lt_of_lt_of_le hg h0.size) (by simp;omega)).trans (h0.block g hg)⟩
end
def Far(B:Nat)(w:World)(X:World→Prop):Prop:=∀ W,Gr B w W→X W
theorem Far.now{B:Nat}{w:World}{X:World→Prop}(h:Far B w X):X w:=h w (Gr.refl w)
theorem irow_gr{B g:Nat}{w W:World}{zs:List Int}(h:IRow w g zs)(k:Gr B w W)(hne:g≠B):IRow W g zs:=h.same (k.block g h.lt (by simpa using hne))
theorem far_own{B N:Nat}{w:World}{v:Value}{P:PosM}(h:PosOwn w N v P)(hb:B<N):Far B w (fun W=>PA W v P):=by
 intro W hW
 obtain⟨g0,c0,g1,c1,g2,c2,rfl,b0,b1,b2,r0,r1,r2,m⟩:=h
 exact⟨_,c0,_,c1,_,c2,rfl,(irow_gr r0 hW (by omega)).ints,(irow_gr r1 hW (by omega)).ints,(irow_gr r2 hW (by omega)).ints,m⟩
theorem far_moves{B:Nat}{w0 w:World}{v:Value}{L:List MM}(h:OwnM w0 w v L)(hb:B<w0.heap.size):Far B w (fun W=>MovesAt W v L):=by
 intro W hW
 obtain⟨A,c,e,h⟩:=h
 have h':W.ownsRow w0.heap.size 31 3 (.slice A L.length c) L.length (L.flatMap MM.vals):=by
  refine⟨h.1,h.2.imp id ?_⟩
  rintro⟨g,cap,cur,h1,h2,h3,h4⟩
  exact⟨g,cap,cur,h1,h2,(hW.block g (Array.getElem?_eq_some_iff.1 h3).1 (by simp;omega)).trans h3,h4⟩
 exact⟨A,c,e,(own_cells h').1⟩
theorem Blk.blk'{B g:Nat}{w W:World}{t:TypeId}{cs:Array Value}(k:Blk w g t cs)(h:Gr B w W)(hne:g≠B):Blk W g t cs:=h.blk k hne
def WalkPost(R:RM)(pA:Option Addr)(pc:Nat)(sA:Option Addr)(sc:Nat)(eA:Option Addr)(ec:Nat)(Bc:Nat)(w:World)(n l T F:Int)(e:Ending)(w':World):Prop :=
 ∃ (ok:Bool) (n' l':Int),e=.returned (.bool ok)∧Blk w' Bc 99 #[.string R.name,.int .i64 R.width,.int .i64 R.height,.slice pA R.pieces.length pc,.slice sA R.start.length sc,.bool R.falls,.bool R.keeps,.slice eA R.ends.length ec,.int .i64 R.blocked,.int .i64 R.quiet,.int .i64 R.rept,.int .i64 n',.int .i64 l']∧Gr Bc w w'∧(ok=true→n'=n+T∧l'=l+F∧n+T≤50000)∧(ok=false→50000<n+T)
theorem partS_lt{tr:MM→Int}(h:∀ m,1≤tr m){L:List MM}{k:Nat}{m:MM}(hm:L[k]? = some m):partS tr L k+tr m≤(L.map tr).sum:=by
 have:=partS_le (f:=tr) (l:=L) (fun m=>by have:=h m;omega) (k+1)
 rwa [partS_succ hm] at this
set_option maxHeartbeats 4000000 in
set_option maxRecDepth 100000 in
theorem walk_any(R:RM)(hV:Valid R)(pA:Option Addr)(pc:Nat)(sA:Option Addr)(sc:Nat)(eA:Option Addr)(ec:Nat)(Bc:Nat):∀ (d:Nat) (P:PosM) (u:Value) (w:World) (D n l:Int),D=d→d≤12→Sound R P→Blk w Bc 99 #[.string R.name,.int .i64 R.width,.int .i64 R.height,.slice pA R.pieces.length pc,.slice sA R.start.length sc,.bool R.falls,.bool R.keeps,.slice eA R.ends.length ec,.int .i64 R.blocked,.int .i64 R.quiet,.int .i64 R.rept,.int .i64 n,.int .i64 l]→Far Bc w (fun W=>RA W (.agg #[.string R.name,.int .i64 R.width,.int .i64 R.height,.slice pA R.pieces.length pc,.slice sA R.start.length sc,.bool R.falls,.bool R.keeps,.slice eA R.ends.length ec,.int .i64 R.blocked,.int .i64 R.quiet,.int .i64 R.rept]) R)→Far Bc w (fun W=>PA W u P)→0≤n→n≤50000→0≤l→l≤n →
  Calls Crz.prog 52 #[.pointer (some ⟨Bc,0,none⟩),u,.int .i64 D] w (WalkPost R pA pc sA sc eA ec Bc w n l (treeM R d P) (leafM R d P)):=by
 intro d
 induction d with
 | zero =>
  intro P u w D n l hD hd hS kC hR hP n0 n1 l0 l1
  obtain⟨cA,cc,aA,ac,bA,bc,rfl,-⟩:=hP.now
  obtain rfl:D=0:=by omega
  obtain⟨x1,k1⟩:=blks1 w #[.slice cA P.cells.length cc,.slice aA P.hand0.length ac,.slice bA P.hand1.length bc,.int .i64 P.turn,.int .i64 P.quiet] 29
  have KC:=hide (kC.ext x1)
  have X1:=hide x1
  have hwn:IntKind.i64.wrap (n+1)=n+1:=by rw [IntKind.wrap_i64];omega
  have hwl:IntKind.i64.wrap (l+1)=l+1:=by rw [IntKind.wrap_i64];omega
  clear hR hP hS hV kC k1 x1 hD hd n0 l0
  have kf:=KC.out.frozen
  have kc:=KC.out.cell
  go_enter Crz.func52,Tryz.ntmps52
  go_upto_region 1 with fail
  generalize w.alloc _=w1 at *
  go_upto_region 2 with fail
  have k2:=qB (i:=11) (u:=.int .i64 (n+1)) KC.out (cs':=#[.string R.name,.int .i64 R.width,.int .i64 R.height,.slice pA R.pieces.length pc,.slice sA R.start.length sc,.bool R.falls,.bool R.keeps,.slice eA R.ends.length ec,.int .i64 R.blocked,.int .i64 R.quiet,.int .i64 R.rept,.int .i64 (n+1),.int .i64 l]) rfl
  have G2:=hide ((Gr.of_ext (B:=Bc) X1.out).set 11 (.int .i64 (n+1)))
  have K2:=hide k2
  clear k2 X1 KC kf kc
  generalize w1.setCell ⟨Bc,11,none⟩ (.int .i64 (n+1))=w2 at *
  have kf:=K2.out.frozen
  have kc:=K2.out.cell
  by_cases hn:50000<n+1
  ·have t0:decide ((50000:Int)<n+1)=true:=by simpa using hn
   go_wp2
   go_ret
   exact⟨false,n+1,l,rfl,K2.out,G2.out,nofun,fun _=>hn⟩
  ·have t0:decide ((50000:Int)<n+1)=false:=by simpa using hn
   go_wp2
   go_ret
   exact⟨true,n+1,l+1,rfl,qB (i:=12) K2.out rfl,G2.out.set 12 _,fun _=>⟨rfl,rfl,by show n+1≤50000;omega⟩,nofun⟩
 | succ d ih =>
  intro P u w D n l hD hd hS kC hR hP n0 n1 l0 l1
  have HRF:=hide hR
  have HPF:=hide hP
  obtain⟨cA,cc,aA,ac,bA,bc,rfl,-⟩:=hP.now
  obtain⟨x1,k1⟩:=blks1 w #[.slice cA P.cells.length cc,.slice aA P.hand0.length ac,.slice bA P.hand1.length bc,.int .i64 P.turn,.int .i64 P.quiet] 29
  have KC:=hide (kC.ext x1)
  have K1:=hide k1
  have X1:=hide x1
  have HBW:Hid (Bc<w.heap.size):=hide kC.lt
  have hne:w.heap.size≠Bc:=by have:=kC.lt;omega
  have HNE:=hide hne
  have hwn:IntKind.i64.wrap (n+1)=n+1:=by rw [IntKind.wrap_i64];omega
  have hwd:IntKind.i64.wrap (D-1)=D-1:=by rw [IntKind.wrap_i64];omega
  have td:(D == 0)=false:=by simp;omega
  have HD:Hid (D-1=(d:Int)∧d≤12):=hide ⟨by omega,by omega⟩
  obtain⟨tr,htr⟩:∃ tr:MM→Int,∀ m,tr m=treeM R d (makeM R P m):=⟨_,fun _=>rfl⟩
  obtain⟨lf,hlf⟩:∃ lf:MM→Int,∀ m,lf m=leafM R d (makeM R P m):=⟨_,fun _=>rfl⟩
  have HT:Hid (treeM R (d+1) P=1+((movesM R P).map tr).sum):=hide (by rw [show tr=fun m=>treeM R d (makeM R P m) from funext htr];rfl)
  have HF:Hid (leafM R (d+1) P=((movesM R P).map lf).sum):=hide (by rw [show lf=fun m=>leafM R d (makeM R P m) from funext hlf];rfl)
  have HB:Hid (∀ m,1≤tr m∧0≤lf m∧lf m≤tr m):=hide (fun m=>by rw [htr m,hlf m];exact⟨tree_pos _ _ _,leaf_nonneg _ _ _,leaf_le _ _ _⟩)
  have HIH:Hid (∀ m,m∈movesM R P→∀ (v:Value) (W:World) (n l:Int),Blk W Bc 99 #[.string R.name,.int .i64 R.width,.int .i64 R.height,.slice pA R.pieces.length pc,.slice sA R.start.length sc,.bool R.falls,.bool R.keeps,.slice eA R.ends.length ec,.int .i64 R.blocked,.int .i64 R.quiet,.int .i64 R.rept,.int .i64 n,.int .i64 l]→Far Bc W (fun W=>RA W (.agg #[.string R.name,.int .i64 R.width,.int .i64 R.height,.slice pA R.pieces.length pc,.slice sA R.start.length sc,.bool R.falls,.bool R.keeps,.slice eA R.ends.length ec,.int .i64 R.blocked,.int .i64 R.quiet,.int .i64 R.rept]) R)→Far Bc W (fun W=>PA W v (makeM R P m))→0≤n→n≤50000→0≤l→l≤n →
    Calls Crz.prog 52 #[.pointer (some ⟨Bc,0,none⟩),v,.int .i64 (D-1)] W (WalkPost R pA pc sA sc eA ec Bc W n l (tr m) (lf m))):=hide (fun m hm v W n l b1 b2 b3 b4 b5 b6 b7=>by
   rw [htr m,hlf m]
   exact ih _ v W _ n l HD.out.1 HD.out.2 (sound_move hV hS hm) b1 b2 b3 b4 b5 b6 b7)
  have HMK:Hid (∀ m,m∈movesM R P→∀ W,Bc<W.heap.size→RA W (.agg #[.string R.name,.int .i64 R.width,.int .i64 R.height,.slice pA R.pieces.length pc,.slice sA R.start.length sc,.bool R.falls,.bool R.keeps,.slice eA R.ends.length ec,.int .i64 R.blocked,.int .i64 R.quiet,.int .i64 R.rept]) R→PA W (.agg #[.slice cA P.cells.length cc,.slice aA P.hand0.length ac,.slice bA P.hand1.length bc,.int .i64 P.turn,.int .i64 P.quiet]) P→Calls Crz.prog 39 #[.agg #[.string R.name,.int .i64 R.width,.int .i64 R.height,.slice pA R.pieces.length pc,.slice sA R.start.length sc,.bool R.falls,.bool R.keeps,.slice eA R.ends.length ec,.int .i64 R.blocked,.int .i64 R.quiet,.int .i64 R.rept],.agg #[.slice cA P.cells.length cc,.slice aA P.hand0.length ac,.slice bA P.hand1.length bc,.int .i64 P.turn,.int .i64 P.quiet],.agg #[.int .i64 m.src,.int .i64 m.dst,.int .i64 m.piece]] W (fun e w'=>∃ v',e=.returned v'∧Far Bc w' (fun W=>PA W v' (makeM R P m))∧Ext W w')):=hide (fun m hm W hb h1 h2=>by
   refine(Make_any R P m _ _ W h1 h2 hV hS (raw_move hm)).mono ?_
   rintro e w' ⟨v',rfl,o,x⟩
   exact⟨v',rfl,far_own o hb,x⟩)
  have HEM:Hid (∀ W,Bc<W.heap.size→RA W (.agg #[.string R.name,.int .i64 R.width,.int .i64 R.height,.slice pA R.pieces.length pc,.slice sA R.start.length sc,.bool R.falls,.bool R.keeps,.slice eA R.ends.length ec,.int .i64 R.blocked,.int .i64 R.quiet,.int .i64 R.rept]) R→PA W (.agg #[.slice cA P.cells.length cc,.slice aA P.hand0.length ac,.slice bA P.hand1.length bc,.int .i64 P.turn,.int .i64 P.quiet]) P→Calls Crz.prog 51 #[.agg #[.string R.name,.int .i64 R.width,.int .i64 R.height,.slice pA R.pieces.length pc,.slice sA R.start.length sc,.bool R.falls,.bool R.keeps,.slice eA R.ends.length ec,.int .i64 R.blocked,.int .i64 R.quiet,.int .i64 R.rept],.agg #[.slice cA P.cells.length cc,.slice aA P.hand0.length ac,.slice bA P.hand1.length bc,.int .i64 P.turn,.int .i64 P.quiet]] W (fun e w'=>∃ A c,e=.returned (.slice A (movesM R P).length c)∧Far Bc w' (fun W=>MovesAt W (.slice A (movesM R P).length c) (movesM R P))∧(movesM R P).length≤1000000∧Ext W w')):=hide (fun W hb h1 h2=>by
   refine(EMoves_any R P _ _ W h1 h2 hV hS).mono ?_
   rintro e w' ⟨v',rfl,o,x⟩
   have f:=far_moves o hb
   obtain⟨A,c,rfl,-⟩:=o
   refine⟨A,c,rfl,f,?_,x⟩
   unfold movesM
   split
   ·exact listM_len hV hS
   ·simp)
  generalize treeM R (d+1) P=T at *
  generalize leafM R (d+1) P=F at *
  generalize movesM R P=L at *
  clear hR hP hS hV kC k1 x1 hD hd ih htr hlf
  have kf:=KC.out.frozen
  have kc:=KC.out.cell
  go_enter Crz.func52,Tryz.ntmps52
  go_upto_region 1 with fail
  generalize w.alloc _=w1 at *
  generalize w.heap.size=BP at *
  go_upto_region 2 with fail
  have k2:=qB (i:=11) (u:=.int .i64 (n+1)) KC.out (cs':=#[.string R.name,.int .i64 R.width,.int .i64 R.height,.slice pA R.pieces.length pc,.slice sA R.start.length sc,.bool R.falls,.bool R.keeps,.slice eA R.ends.length ec,.int .i64 R.blocked,.int .i64 R.quiet,.int .i64 R.rept,.int .i64 (n+1),.int .i64 l]) rfl
  have G2:=hide ((Gr.of_ext (B:=Bc) X1.out).set 11 (.int .i64 (n+1)))
  have KP:=hide (((Gr.refl (B:=Bc) w1).set 11 (.int .i64 (n+1))).blk K1.out HNE.out)
  have K2:=hide k2
  clear k2 X1 KC kf kc K1
  generalize w1.setCell ⟨Bc,11,none⟩ (.int .i64 (n+1))=w2 at *
  have kf:=K2.out.frozen
  have kc:=K2.out.cell
  by_cases hn:50000<n+1
  ·have t0:decide ((50000:Int)<n+1)=true:=by simpa using hn
   go_wp2
   go_ret
   exact⟨false,n+1,l,rfl,K2.out,G2.out,nofun,fun _=>by
    have h1:=HT.out
    have h2:=sum_nonneg (L.map tr) (fun x hx=>by
     obtain⟨m,_,rfl⟩:=List.mem_map.1 hx
     have:=(HB.out m).1;omega)
    omega⟩
  ·have t0:decide ((50000:Int)<n+1)=false:=by simpa using hn
   go_upto_region 7 with fail
   clear kf kc t0
   have HLT:Hid (Bc<w2.heap.size):=hide K2.out.lt
   have keepK:=hide (fun W (h:Ext w2 W)=>(show (fun W=>W.cell? ⟨Bc,0,none⟩=some (.string R.name)∧W.cell? ⟨Bc,1,none⟩=some (.int .i64 R.width)∧W.cell? ⟨Bc,2,none⟩=some (.int .i64 R.height)∧W.cell? ⟨Bc,3,none⟩=some (.slice pA R.pieces.length pc)∧W.cell? ⟨Bc,4,none⟩=some (.slice sA R.start.length sc)∧W.cell? ⟨Bc,5,none⟩=some (.bool R.falls)∧W.cell? ⟨Bc,6,none⟩=some (.bool R.keeps)∧W.cell? ⟨Bc,7,none⟩=some (.slice eA R.ends.length ec)∧W.cell? ⟨Bc,8,none⟩=some (.int .i64 R.blocked)∧W.cell? ⟨Bc,9,none⟩=some (.int .i64 R.quiet)∧W.cell? ⟨Bc,10,none⟩=some (.int .i64 R.rept)∧W.cell? ⟨Bc,11,none⟩=some (.int .i64 (n+1))∧W.cell? ⟨Bc,12,none⟩=some (.int .i64 l)∧W.cell? ⟨BP,0,none⟩=some (.slice cA P.cells.length cc)∧W.cell? ⟨BP,1,none⟩=some (.slice aA P.hand0.length ac)∧W.cell? ⟨BP,2,none⟩=some (.slice bA P.hand1.length bc)∧W.cell? ⟨BP,3,none⟩=some (.int .i64 P.turn)∧W.cell? ⟨BP,4,none⟩=some (.int .i64 P.quiet)∧Ext w2 W) W from ⟨(K2.out.ext h).cell 0,(K2.out.ext h).cell 1,(K2.out.ext h).cell 2,(K2.out.ext h).cell 3,(K2.out.ext h).cell 4,(K2.out.ext h).cell 5,(K2.out.ext h).cell 6,(K2.out.ext h).cell 7,(K2.out.ext h).cell 8,(K2.out.ext h).cell 9,(K2.out.ext h).cell 10,(K2.out.ext h).cell 11,(K2.out.ext h).cell 12,(KP.out.ext h).cell 0,(KP.out.ext h).cell 1,(KP.out.ext h).cell 2,(KP.out.ext h).cell 3,(KP.out.ext h).cell 4,h⟩))
   have yy:Ext w2 w2.drew:=Below.drew (Below.refl _ _)
   refine region_K (fun W=>W.cell? ⟨Bc,0,none⟩=some (.string R.name)∧W.cell? ⟨Bc,1,none⟩=some (.int .i64 R.width)∧W.cell? ⟨Bc,2,none⟩=some (.int .i64 R.height)∧W.cell? ⟨Bc,3,none⟩=some (.slice pA R.pieces.length pc)∧W.cell? ⟨Bc,4,none⟩=some (.slice sA R.start.length sc)∧W.cell? ⟨Bc,5,none⟩=some (.bool R.falls)∧W.cell? ⟨Bc,6,none⟩=some (.bool R.keeps)∧W.cell? ⟨Bc,7,none⟩=some (.slice eA R.ends.length ec)∧W.cell? ⟨Bc,8,none⟩=some (.int .i64 R.blocked)∧W.cell? ⟨Bc,9,none⟩=some (.int .i64 R.quiet)∧W.cell? ⟨Bc,10,none⟩=some (.int .i64 R.rept)∧W.cell? ⟨Bc,11,none⟩=some (.int .i64 (n+1))∧W.cell? ⟨Bc,12,none⟩=some (.int .i64 l)∧W.cell? ⟨BP,0,none⟩=some (.slice cA P.cells.length cc)∧W.cell? ⟨BP,1,none⟩=some (.slice aA P.hand0.length ac)∧W.cell? ⟨BP,2,none⟩=some (.slice bA P.hand1.length bc)∧W.cell? ⟨BP,3,none⟩=some (.int .i64 P.turn)∧W.cell? ⟨BP,4,none⟩=some (.int .i64 P.quiet)∧Ext w2 W) (fun _=>True) [] (by kernel_rfl) ?_
   have hT0:=keepK.out _ yy
   refine tk 0 hT0 (fun _=>trivial) ?_
   refine tk 1 hT0 (fun _=>trivial) ?_
   refine tk 2 hT0 (fun _=>trivial) ?_
   refine tl 3 hT0 (fun _=>trivial) (v:=?_) (fun W hW=>?_) ?_
   rotate_left
   ·obtain⟨z0,z1,z2,z3,z4,z5,z6,z7,z8,z9,z10,z11,z12,z13,z14,z15,z16,z17,z18⟩:=hW;go_simp;first|done|with_reducible rfl
   refine tl 4 hT0 (fun _=>trivial) (v:=?_) (fun W hW=>?_) ?_
   rotate_left
   ·obtain⟨z0,z1,z2,z3,z4,z5,z6,z7,z8,z9,z10,z11,z12,z13,z14,z15,z16,z17,z18⟩:=hW;go_simp;first|done|with_reducible rfl
   refine tk 7 hT0 (fun _=>trivial) ?_
   refine anyK_on1 5 (by kernel_rfl) ?_
   refine tw 5 (fun K hK=>?_)
   go_simp
   refine(HEM.out _ (Nat.lt_of_lt_of_le HLT.out yy.size) (HRF.out _ (G2.out.ext yy)) (HPF.out _ (G2.out.ext yy))).mono ?_
   rintro e wm ⟨A5,c5,rfl,hm5,hln,xx⟩
   try go_wp2_with fail
   replace yy:=qT yy xx
   have HM5:=hide hm5
   have X5:=hide yy
   clear hm5
   have hT1:=keepK.out _ yy
   refine hK.out _ _ hT1 (fun _=>trivial) ?_
   clear hK K
   try simp only [Act.put,List.setIfInBounds_toArray,List.set_cons_zero,List.set_cons_succ]
   refine tk 6 hT1 (fun _=>trivial) ?_
   refine anyK_done (by kernel_rfl) ?_ _
   clear keepK hT0 hT1
   have G3:=hide (G2.out.ext X5.out)
   have KP3:=hide (KP.out.ext X5.out)
   have K3:=hide (K2.out.ext X5.out)
   clear yy
   go_wp2
   go_loopw [37] (fun i wr=>∃ (k:Nat) (n' l':Int),k≤L.length∧i=.int .i64 k∧Blk wr Bc 99 #[.string R.name,.int .i64 R.width,.int .i64 R.height,.slice pA R.pieces.length pc,.slice sA R.start.length sc,.bool R.falls,.bool R.keeps,.slice eA R.ends.length ec,.int .i64 R.blocked,.int .i64 R.quiet,.int .i64 R.rept,.int .i64 n',.int .i64 l']∧Gr Bc wm wr∧Hid (n'=n+1+partS tr L k∧l'=l+partS lf L k∧n'≤50000)) (fun i _=>L.length-(intOf i).toNat)
   case atStart=>exact⟨0,n+1,l,Nat.zero_le _,rfl,K3.out,Gr.refl _,hide ⟨by rw [partS_zero];omega,by rw [partS_zero];omega,by omega⟩⟩
   case round =>
    obtain⟨k,n',l',hk,rfl,kC,gr,hsum⟩:=hrel
    by_cases hlt:k<L.length
    ·obtain⟨m,hm⟩:∃ m,L[k]? = some m:=⟨L[k],List.getElem?_eq_getElem _⟩
     have hmv:=HM5.out wr gr
     obtain⟨A',c',e',hc'⟩:=hmv
     obtain⟨b,o,rfl,m0,m1,m2⟩:=moves_get hc' hm
     simp only [Value.slice.injEq] at e'
     obtain⟨rfl,-,rfl⟩:=e'
     have HKC:=hide kC
     have HKP:=hide (KP3.out.blk' gr HNE.out)
     have HGR:=hide gr
     have HM:=hide hm
     have hml:=List.mem_of_getElem? hm
     have HW:=hide (HIH.out m hml)
     have HMK2:=hide (HMK.out m hml)
     have hsz:=kC.lt
     have hbd:=partS_lt (fun m=>(HB.out m).1) hm
     have HPS:=hide (partS_nonneg (f:=lf) (l:=L) (fun m=>(HB.out m).2.1) k)
     have HPT:=hide (partS_nonneg (f:=tr) (l:=L) (fun m=>by have:=(HB.out m).1;omega) k)
     have HPL:Hid (partS lf L k≤partS tr L k):=hide (sum_le _ _ _ (fun m _=>(HB.out m).2.2))
     have HBD:=hide hbd
     clear gr hm kC hml hbd hc'
     go_upto_region 10 with fail
     obtain⟨x4,k4⟩:=blks1 wr #[.int .i64 m.src,.int .i64 m.dst,.int .i64 m.piece] 31
     have K4:=hide k4
     have X4:=hide x4
     have NE4:Hid (wr.heap.size≠Bc):=hide (by omega)
     have HLT4:Hid (Bc<wr.heap.size):=hide hsz
     clear k4 x4 m0 m1 m2 hsz
     have KC4:=hide (HKC.out.ext X4.out)
     have KP4:=hide (HKP.out.ext X4.out)
     have G4:=hide (HGR.out.ext X4.out)
     clear HKC HKP HGR
     generalize wr.alloc _=w4 at *
     generalize hBM:wr.heap.size=BM at *
     clear hBM
     have HSZ4:=hide (fun W (h:Gr Bc w4 W)=>Nat.lt_of_lt_of_le KC4.out.lt h.size)
     have HR4:=hide (fun W (h:Gr Bc w4 W)=>HRF.out W (G3.out.trans (G4.out.trans h)))
     have HP4:=hide (fun W (h:Gr Bc w4 W)=>HPF.out W (G3.out.trans (G4.out.trans h)))
     have zz:Ext w4 w4.drew:=Below.drew (Below.refl _ _)
     have keepK:=hide (fun W (h:Gr Bc w4 W∧∃ n l,Blk W Bc 99 #[.string R.name,.int .i64 R.width,.int .i64 R.height,.slice pA R.pieces.length pc,.slice sA R.start.length sc,.bool R.falls,.bool R.keeps,.slice eA R.ends.length ec,.int .i64 R.blocked,.int .i64 R.quiet,.int .i64 R.rept,.int .i64 n,.int .i64 l])=>(show (fun W=>W.cell? ⟨Bc,0,none⟩=some (.string R.name)∧W.cell? ⟨Bc,1,none⟩=some (.int .i64 R.width)∧W.cell? ⟨Bc,2,none⟩=some (.int .i64 R.height)∧W.cell? ⟨Bc,3,none⟩=some (.slice pA R.pieces.length pc)∧W.cell? ⟨Bc,4,none⟩=some (.slice sA R.start.length sc)∧W.cell? ⟨Bc,5,none⟩=some (.bool R.falls)∧W.cell? ⟨Bc,6,none⟩=some (.bool R.keeps)∧W.cell? ⟨Bc,7,none⟩=some (.slice eA R.ends.length ec)∧W.cell? ⟨Bc,8,none⟩=some (.int .i64 R.blocked)∧W.cell? ⟨Bc,9,none⟩=some (.int .i64 R.quiet)∧W.cell? ⟨Bc,10,none⟩=some (.int .i64 R.rept)∧W.cell? ⟨BP,0,none⟩=some (.slice cA P.cells.length cc)∧W.cell? ⟨BP,1,none⟩=some (.slice aA P.hand0.length ac)∧W.cell? ⟨BP,2,none⟩=some (.slice bA P.hand1.length bc)∧W.cell? ⟨BP,3,none⟩=some (.int .i64 P.turn)∧W.cell? ⟨BP,4,none⟩=some (.int .i64 P.quiet)∧W.cell? ⟨BM,0,none⟩=some (.int .i64 m.src)∧W.cell? ⟨BM,1,none⟩=some (.int .i64 m.dst)∧W.cell? ⟨BM,2,none⟩=some (.int .i64 m.piece)∧Gr Bc w4 W∧∃ n l,Blk W Bc 99 #[.string R.name,.int .i64 R.width,.int .i64 R.height,.slice pA R.pieces.length pc,.slice sA R.start.length sc,.bool R.falls,.bool R.keeps,.slice eA R.ends.length ec,.int .i64 R.blocked,.int .i64 R.quiet,.int .i64 R.rept,.int .i64 n,.int .i64 l]) W from ⟨(match h with | ⟨_,_,_,hb⟩=>hb.cell 0),(match h with | ⟨_,_,_,hb⟩=>hb.cell 1),(match h with | ⟨_,_,_,hb⟩=>hb.cell 2),(match h with | ⟨_,_,_,hb⟩=>hb.cell 3),(match h with | ⟨_,_,_,hb⟩=>hb.cell 4),(match h with | ⟨_,_,_,hb⟩=>hb.cell 5),(match h with | ⟨_,_,_,hb⟩=>hb.cell 6),(match h with | ⟨_,_,_,hb⟩=>hb.cell 7),(match h with | ⟨_,_,_,hb⟩=>hb.cell 8),(match h with | ⟨_,_,_,hb⟩=>hb.cell 9),(match h with | ⟨_,_,_,hb⟩=>hb.cell 10),(KP4.out.blk' h.1 HNE.out).cell 0,(KP4.out.blk' h.1 HNE.out).cell 1,(KP4.out.blk' h.1 HNE.out).cell 2,(KP4.out.blk' h.1 HNE.out).cell 3,(KP4.out.blk' h.1 HNE.out).cell 4,(K4.out.blk' h.1 NE4.out).cell 0,(K4.out.blk' h.1 NE4.out).cell 1,(K4.out.blk' h.1 NE4.out).cell 2,h⟩))
     have yy:=(⟨Gr.of_ext zz,_,_,KC4.out.ext zz⟩:(fun W=>Gr Bc w4 W∧∃ n l,Blk W Bc 99 #[.string R.name,.int .i64 R.width,.int .i64 R.height,.slice pA R.pieces.length pc,.slice sA R.start.length sc,.bool R.falls,.bool R.keeps,.slice eA R.ends.length ec,.int .i64 R.blocked,.int .i64 R.quiet,.int .i64 R.rept,.int .i64 n,.int .i64 l]) w4.drew)
     refine region_K (fun W=>W.cell? ⟨Bc,0,none⟩=some (.string R.name)∧W.cell? ⟨Bc,1,none⟩=some (.int .i64 R.width)∧W.cell? ⟨Bc,2,none⟩=some (.int .i64 R.height)∧W.cell? ⟨Bc,3,none⟩=some (.slice pA R.pieces.length pc)∧W.cell? ⟨Bc,4,none⟩=some (.slice sA R.start.length sc)∧W.cell? ⟨Bc,5,none⟩=some (.bool R.falls)∧W.cell? ⟨Bc,6,none⟩=some (.bool R.keeps)∧W.cell? ⟨Bc,7,none⟩=some (.slice eA R.ends.length ec)∧W.cell? ⟨Bc,8,none⟩=some (.int .i64 R.blocked)∧W.cell? ⟨Bc,9,none⟩=some (.int .i64 R.quiet)∧W.cell? ⟨Bc,10,none⟩=some (.int .i64 R.rept)∧W.cell? ⟨BP,0,none⟩=some (.slice cA P.cells.length cc)∧W.cell? ⟨BP,1,none⟩=some (.slice aA P.hand0.length ac)∧W.cell? ⟨BP,2,none⟩=some (.slice bA P.hand1.length bc)∧W.cell? ⟨BP,3,none⟩=some (.int .i64 P.turn)∧W.cell? ⟨BP,4,none⟩=some (.int .i64 P.quiet)∧W.cell? ⟨BM,0,none⟩=some (.int .i64 m.src)∧W.cell? ⟨BM,1,none⟩=some (.int .i64 m.dst)∧W.cell? ⟨BM,2,none⟩=some (.int .i64 m.piece)∧Gr Bc w4 W∧∃ n l,Blk W Bc 99 #[.string R.name,.int .i64 R.width,.int .i64 R.height,.slice pA R.pieces.length pc,.slice sA R.start.length sc,.bool R.falls,.bool R.keeps,.slice eA R.ends.length ec,.int .i64 R.blocked,.int .i64 R.quiet,.int .i64 R.rept,.int .i64 n,.int .i64 l]) (fun _=>True) [] (by kernel_rfl) ?_
     have hT0:=keepK.out _ yy
     refine tk 0 hT0 (fun _=>trivial) ?_
     refine tk 1 hT0 (fun _=>trivial) ?_
     refine tk 2 hT0 (fun _=>trivial) ?_
     refine tk 3 hT0 (fun _=>trivial) ?_
     refine tl 4 hT0 (fun _=>trivial) (v:=?_) (fun W hW=>?_) ?_
     rotate_left
     ·obtain⟨z0,z1,z2,z3,z4,z5,z6,z7,z8,z9,z10,z11,z12,z13,z14,z15,z16,z17,z18,z19⟩:=hW;go_simp;first|done|with_reducible rfl
     refine tl 5 hT0 (fun _=>trivial) (v:=?_) (fun W hW=>?_) ?_
     rotate_left
     ·obtain⟨z0,z1,z2,z3,z4,z5,z6,z7,z8,z9,z10,z11,z12,z13,z14,z15,z16,z17,z18,z19⟩:=hW;go_simp;first|done|with_reducible rfl
     refine tl 6 hT0 (fun _=>trivial) (v:=?_) (fun W hW=>?_) ?_
     rotate_left
     ·obtain⟨z0,z1,z2,z3,z4,z5,z6,z7,z8,z9,z10,z11,z12,z13,z14,z15,z16,z17,z18,z19⟩:=hW;go_simp;first|done|with_reducible rfl
     refine tk 8 hT0 (fun _=>trivial) ?_
     refine tk 9 hT0 (fun _=>trivial) ?_
     refine anyK_on1 7 (by kernel_rfl) ?_
     refine tw 7 (fun K hK=>?_)
     go_simp
     refine(HMK2.out _ (HSZ4.out _ yy.1) (HR4.out _ yy.1) (HP4.out _ yy.1)).mono ?_
     rintro e wk ⟨v6,rfl,hp6,xx⟩
     try go_wp2_with fail
     replace yy:=(⟨yy.1.ext xx,match yy with | ⟨_,a,b,h⟩=>⟨a,b,h.ext xx⟩⟩:(fun W=>Gr Bc w4 W∧∃ n l,Blk W Bc 99 #[.string R.name,.int .i64 R.width,.int .i64 R.height,.slice pA R.pieces.length pc,.slice sA R.start.length sc,.bool R.falls,.bool R.keeps,.slice eA R.ends.length ec,.int .i64 R.blocked,.int .i64 R.quiet,.int .i64 R.rept,.int .i64 n,.int .i64 l]) wk)
     have HP6:=hide hp6
     have zz2:=qT zz xx
     clear hp6
     have hT1:=keepK.out _ yy
     refine hK.out _ _ hT1 (fun _=>trivial) ?_
     clear hK K
     try simp only [Act.put,List.setIfInBounds_toArray,List.set_cons_zero,List.set_cons_succ]
     refine anyK_on1 10 (by kernel_rfl) ?_
     refine tw 10 (fun K hK=>?_)
     go_simp
     refine(HW.out v6 _ n' l' (KC4.out.ext zz2) (fun W h=>HR4.out W ((Gr.of_ext zz2).trans h)) HP6.out (by have:=hsum.out;have:=HPT.out;omega) (by have:=hsum.out;omega) (by have:=hsum.out;have:=HPS.out;omega) (by have:=hsum.out;have:=HPL.out;omega)).mono ?_
     rintro e wz ⟨ok,n2,l2,rfl,kz,gz,hok,hfl⟩
     try go_wp2_with fail
     replace yy:=(⟨yy.1.trans gz,n2,l2,kz⟩:(fun W=>Gr Bc w4 W∧∃ n l,Blk W Bc 99 #[.string R.name,.int .i64 R.width,.int .i64 R.height,.slice pA R.pieces.length pc,.slice sA R.start.length sc,.bool R.falls,.bool R.keeps,.slice eA R.ends.length ec,.int .i64 R.blocked,.int .i64 R.quiet,.int .i64 R.rept,.int .i64 n,.int .i64 l]) wz)
     have hT2:=keepK.out _ yy
     refine hK.out _ _ hT2 (fun _=>trivial) ?_
     clear hK K
     try simp only [Act.put,List.setIfInBounds_toArray,List.set_cons_zero,List.set_cons_succ]
     refine tk 11 hT2 (fun _=>trivial) ?_
     refine anyK_done (by kernel_rfl) ?_ _
     clear keepK hT0 hT1 hT2
     obtain⟨G9,-⟩:=yy
     have GZ:=hide (G4.out.trans G9)
     have HS:=hsum.out
     cases ok
     ·have hnn:50000<n+T:=by
       have:=hfl rfl
       have:=HBD.out
       have:=HT.out
       omega
      clear hok hfl HS
      go_wp2
      go_ret
      exact⟨false,n2,l2,rfl,kz,G3.out.trans GZ.out,nofun,fun _=>hnn⟩
     ·obtain⟨e1,e2,e3⟩:=hok rfl
      have HNW:Hid (n2=n+1+partS tr L (k+1)∧l2=l+partS lf L (k+1)∧n2≤50000):=hide (by
       rw [partS_succ HM.out,partS_succ HM.out]
       omega)
      clear hok hfl HS e1 e2 e3
      have KZ:=hide kz
      clear kz G9
      go_wp2
      go_roundw
      case rel=>exact⟨k+1,n2,l2,by omega,by go_num,KZ.out,GZ.out,HNW⟩
      case measure=>simp [intOf];omega
    ·obtain rfl:k=L.length:=by omega
     have HS:=hsum.out
     rw [partS_all,partS_all] at HS
     clear hk hlt
     have KC:=hide kC
     have HGR:=hide gr
     clear kC gr
     go_wp2
     go_ret
     exact⟨true,n',l',rfl,KC.out,G3.out.trans HGR.out,fun _=>⟨by rw [HT.out];omega,by rw [HF.out];omega,by rw [HT.out];omega⟩,nofun⟩
end Go.Proofs.YtdoibgmmijhlfaaGreat
