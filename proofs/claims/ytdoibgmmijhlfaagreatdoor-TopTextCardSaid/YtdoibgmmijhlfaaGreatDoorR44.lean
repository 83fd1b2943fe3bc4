/- EndsW3 PosRow GameP GameW1 -/
import Derived.Test.YtdoibgmmijhlfaaGreatDoorR41
import Derived.Test.YtdoibgmmijhlfaaGreatDoorR35
import Derived.Test.YtdoibgmmijhlfaaGreatDoorR11
import Derived.Test.YtdoibgmmijhlfaaGreatDoorR05
import Derived.Test.YtdoibgmmijhlfaaGreatDoorR01
import Derived.StillTailTactics
import Derived.Laws.ResultCell
namespace Go.Proofs.YtdoibgmmijhlfaaGreatDoor
open Go.ChangeShapes Go.WideShapes Go.ChangeAt Go.RowKit Go.Shelf
set_option linter.unusedVariables false
def FirstIdx (es : List EndM) (p : EndM→Bool) (r : Int) : Prop:=(r=-1∧∀ x ∈ es,p x=false)∨(∃ (k : Nat) (x : EndM),r=(k : Int)∧es[k]? = some x∧p x=true∧∀ j,j < k→∀ y,es[j]? = some y→p y=false)
def IdxEPost (w : World) (es : List EndM) (p : EndM→Bool) (e : Ending) (w' : World) : Prop:=∃ r,FirstIdx es p r∧e=.returned (.int .i64 r)∧Ext w w'
theorem find_first {p : EndM→Bool} : ∀ {es : List EndM} {k : Nat} {x : EndM},es[k]? = some x→p x=true→(∀ j,j < k→∀ y,es[j]? = some y→p y=false)→es.find? p=some x
 | [],k,x,h,_,_ => by simp at h
 | a :: l,0,x,h,hp,_ => by
  simp only [List.getElem?_cons_zero,Option.some.injEq] at h
  subst h
  rw [List.find?_cons,hp]
 | a :: l,k + 1,x,h,hp,hn => by
  have ha:=hn 0 (by omega) a rfl
  rw [List.find?_cons,ha]
  exact find_first (es:=l) (k:=k) (by simpa using h) hp (fun j hj y hy => hn (j + 1) (by omega) y (by simpa using hy))
theorem find_none {p : EndM→Bool} {es : List EndM} (h : ∀ x ∈ es,p x=false) : es.find? p=none:=by
 rw [List.find?_eq_none]
 intro x hx
 simp [h x hx]
set_option maxHeartbeats 2000000 in
theorem idxEnds (cl : FuncId) (c0_ c1_ c2_ : Value) (p : EndM→Bool) (A : Option Addr) (c : Nat) (es : List EndM) (w : World) (hm : es.length≤1000000) (hz : EndsAt w A es)
  (eg : ∀ args W,(callFunc cl args).run Tryz.prog W=.ok (.enter cl args) W) (hcl : ∀ x ∈ es,∀ W,Ext w W→Calls Tryz.prog cl #[.agg #[.int .i64 x.kind,.int .i64 x.piece,.int .i64 x.count,.bool x.loses],c0_,c1_,c2_] W fun e w' => e=.returned (.bool (p x))∧Ext W w') :
  Calls Tryz.prog 81 #[.slice A es.length c,.func (.func cl) #[] #[c0_,c1_,c2_]] w (IdxEPost w es p):=by
 have HC:=hide hcl
 have HZ:=hide hz
 clear hcl hz
 go_enter Tryz.func81,Tryz.ntmps81
 go_wp2
 go_loopw [5,8] (fun _ i wr => ∃ k : Nat,k≤es.length∧i=.int .i64 k∧Hid (∀ j,j < k→∀ y,es[j]? = some y→p y=false)∧Ext w wr) (fun _ i _ => es.length - (intOf i).toNat)
 case atStart => exact ⟨0,Nat.zero_le _,rfl,hide (fun j hj => by omega),Below.refl _ _⟩
 case round =>
  obtain ⟨k,hk,rfl,hall,hext⟩:=hrel
  have XO:=hide hext
  clear hext
  by_cases hlt : k < es.length
  ·obtain ⟨x,hx⟩ : ∃ x,es[k]? = some x:=⟨es[k],List.getElem?_eq_getElem _⟩
   obtain ⟨b,o,rfl,d0,d1,d2,d3⟩:=EndsAt.get (CellsAt.ext HZ.out XO.out) hx
   have HXX:=hide hx
   have HCALL:=hide (HC.out x (List.mem_of_getElem? hx) wr XO.out)
   have j0 : (0 : Int)≤(k : Int):=by omega
   have j1 : (k : Int) < (es.length : Int):=by omega
   clear hx
   go_wp2_with fail
   refine HCALL.out.mono ?_
   rintro e w1 ⟨rfl,y1⟩
   have Y1:=hide (ext_trans XO.out y1)
   clear y1 d0 d1 d2 d3
   cases hp : p x
   ·have HN : Hid (∀ j,j < k + 1→∀ y,es[j]? = some y→p y=false):=hide (fun j hj y hy => by
     rcases (by omega : j < k∨j=k) with h | h
     ·exact hall.out j h y hy
     ·subst h
      have:=HXX.out
      rw [hy] at this
      injection this with this
      rw [this]; exact hp)
    clear hp
    go_wp2
    go_roundw
    case rel => exact ⟨k + 1,by omega,by go_num,HN,Y1.out⟩
    case measure => simp [intOf]; omega
   ·have HP:=hide hp
    clear hp
    go_wp2
    go_ret
    exact ⟨k,.inr ⟨k,x,rfl,HXX.out,HP.out,hall.out⟩,rfl,Y1.out⟩
  ·obtain rfl : k=es.length:=by omega
   go_wp2
   go_ret
   exact ⟨-1,.inl ⟨rfl,fun x hx => by
    obtain ⟨j,hj,rfl⟩:=List.mem_iff_getElem.1 hx
    exact hall.out j hj _ (List.getElem?_eq_getElem hj)⟩,rfl,XO.out⟩
theorem wins_any (p : Int) (w : World) (h0 : 0≤p) (h1 : p≤1) : Calls Tryz.prog 84 #[.int .i64 p] w fun e w' => e=.returned (.int .i64 (1 + p))∧w=w':=by
 go_enter Tryz.func84,Tryz.ntmps84
 go_wp2
 go_ret
 exact ⟨rfl,rfl⟩
set_option maxHeartbeats 2000000 in
set_option maxRecDepth 100000 in
theorem rclo_any (R : RulesM) (P : PosM) (p : Int) (x : EndM) (pA sA eA cA aA bA : Option Addr) (pc sc ec cc ac bc B1 B2 B3 : Nat) (w : World)
  (hR : RulesAt w (.agg #[.string R.name,.int .i64 R.width,.int .i64 R.height,.slice pA R.pieces.length pc,.slice sA R.start.length sc,.bool R.falls,.bool R.keeps,.slice eA R.ends.length ec,.int .i64 R.blocked,.int .i64 R.quiet,.int .i64 R.rept]) R) (hP : PosAt w (.agg #[.slice cA P.cells.length cc,.slice aA P.hand0.length ac,.slice bA P.hand1.length bc,.int .i64 P.turn,.int .i64 P.quiet]) P) (hV : Valid R) (hS : Sound R P) (hp : p=0∨p=1) (hx : x ∈ R.ends)
  (k1 : Blk w B1 26 #[.string R.name,.int .i64 R.width,.int .i64 R.height,.slice pA R.pieces.length pc,.slice sA R.start.length sc,.bool R.falls,.bool R.keeps,.slice eA R.ends.length ec,.int .i64 R.blocked,.int .i64 R.quiet,.int .i64 R.rept]) (k2 : Blk w B2 43 #[.slice cA P.cells.length cc,.slice aA P.hand0.length ac,.slice bA P.hand1.length bc,.int .i64 P.turn,.int .i64 P.quiet]) (k3 : Blk w B3 3 #[.int .i64 p]) :
  Calls Tryz.prog 82 #[.agg #[.int .i64 x.kind,.int .i64 x.piece,.int .i64 x.count,.bool x.loses],.pointer (some ⟨B1,0,none⟩),.pointer (some ⟨B2,0,none⟩),.pointer (some ⟨B3,0,none⟩)] w
   fun e w' => e=.returned (.bool (holdsB R P p x))∧Ext w w':=by
 have HH:=hide (fun W (hW : Ext w W) => holds_any R P p x _ _ W (hR.ext hW) (hP.ext hW) hV hS hp hx)
 obtain ⟨x1,k4⟩:=blks1 w #[.int .i64 x.kind,.int .i64 x.piece,.int .i64 x.count,.bool x.loses] 66
 have f1:=(k1.ext x1).cell
 have f2:=(k2.ext x1).cell
 have f3:=(k3.ext x1).cell
 have f4:=k4.cell
 have HX:=hide x1
 clear hR hP hV hS hp hx k1 k2 k3 k4 x1
 generalize holdsB R P p x=b at *
 go_enter Tryz.func82,Tryz.ntmps82
 go_wp2_with fail
 refine (HH.out _ HX.out).mono ?_
 rintro e w2 ⟨rfl,x2⟩
 clear f1 f2 f3 f4
 go_wp2
 go_ret
 exact ⟨rfl,ext_trans HX.out x2⟩
set_option maxHeartbeats 8000000 in
set_option maxRecDepth 100000 in
theorem Result_any (R : RulesM) (P : PosM) (v u : Value) (w : World) (hR : RulesAt w v R) (hP : PosAt w u P) (hV : Valid R) (hS : Sound R P) :
  Calls Tryz.prog 46 #[v,u] w fun e w' => e=.returned (.int .i64 (resultM R P))∧Ext w w':=by
 have ht:=hS.turn
 have ht0 : 0≤P.turn:=by omega
 have ht1 : P.turn≤1:=by omega
 have h6:=hV.ends6
 have HL:=hide (fun W (hW : Ext w W) => List_any R P v u W (hR.ext hW) (hP.ext hW) hV hS)
 have HLL:=hide (listM_len hV hS)
 obtain ⟨pA,pc,sA,sc,eA,ec,rfl,hp1,hp2,he,hrest⟩:=hR
 obtain ⟨cA,cc,aA,ac,bA,bc,rfl,hpos⟩:=hP
 have hR : RulesAt w (.agg #[.string R.name,.int .i64 R.width,.int .i64 R.height,.slice pA R.pieces.length pc,.slice sA R.start.length sc,.bool R.falls,.bool R.keeps,.slice eA R.ends.length ec,.int .i64 R.blocked,.int .i64 R.quiet,.int .i64 R.rept]) R:=⟨pA,pc,sA,sc,eA,ec,rfl,hp1,hp2,he,hrest⟩
 have hP : PosAt w (.agg #[.slice cA P.cells.length cc,.slice aA P.hand0.length ac,.slice bA P.hand1.length bc,.int .i64 P.turn,.int .i64 P.quiet]) P:=⟨cA,cc,aA,ac,bA,bc,rfl,hpos⟩
 have HCL:=hide (fun (x : EndM) (hx : x ∈ R.ends) B1 B2 B3 W (hW : Ext w W) k1 k2 k3 => rclo_any R P (1 - P.turn) x pA sA eA cA aA bA pc sc ec cc ac bc B1 B2 B3 W (hR.ext hW) (hP.ext hW) hV hS (by omega) hx k1 k2 k3)
 have HE:=hide he
 obtain ⟨x1,k1,k2,k3⟩:=blks3 w #[.string R.name,.int .i64 R.width,.int .i64 R.height,.slice pA R.pieces.length pc,.slice sA R.start.length sc,.bool R.falls,.bool R.keeps,.slice eA R.ends.length ec,.int .i64 R.blocked,.int .i64 R.quiet,.int .i64 R.rept] 26 #[.slice cA P.cells.length cc,.slice aA P.hand0.length ac,.slice bA P.hand1.length bc,.int .i64 P.turn,.int .i64 P.quiet] 43 #[.int .i64 (1 - P.turn)] 3
 have f1:=k1.cell
 have f2:=k2.cell
 have HX:=hide x1
 have K1:=hide k1
 have K2:=hide k2
 have K3:=hide k3
 have HE2:=hide (show EndsAt _ eA R.ends from CellsAt.ext HE.out x1)
 clear hp1 hp2 he hrest hpos hR hP hV hS ht x1 k1 k2 k3
 go_enter Tryz.func46,Tryz.ntmps46
 go_wp2_with fail
 generalize ((w.alloc (.cells #[.string R.name,.int .i64 R.width,.int .i64 R.height,.slice pA R.pieces.length pc,.slice sA R.start.length sc,.bool R.falls,.bool R.keeps,.slice eA R.ends.length ec,.int .i64 R.blocked,.int .i64 R.quiet,.int .i64 R.rept] 26)).alloc (.cells #[.slice cA P.cells.length cc,.slice aA P.hand0.length ac,.slice bA P.hand1.length bc,.int .i64 P.turn,.int .i64 P.quiet] 43)).alloc (.cells #[.int .i64 (1 - P.turn)] 3)=w2 at *
 generalize w.heap.size + 1 + 1=B3 at *
 generalize w.heap.size + 1=B2 at *
 generalize hB1 : w.heap.size=B1 at *
 have HB1:=hide hB1
 clear hB1 f1 f2
 refine (idxEnds 82 _ _ _ (holdsB R P (1 - P.turn)) eA ec R.ends w2 (by omega) HE2.out (enters_of Tryz.func82 (by kernel_rfl) rfl) (fun x hx W hW => HCL.out x hx B1 B2 B3 W (ext_trans HX.out hW) (K1.out.ext hW) (K2.out.ext hW) (K3.out.ext hW))).mono ?_
 rintro e w3 ⟨r,hr,rfl,x3⟩
 have X3:=hide (ext_trans HX.out x3)
 have l1:=(K1.out.ext x3)
 have l2:=(K2.out.ext x3)
 have l3:=(K3.out.ext x3)
 have f1:=l1.cell
 have f2:=l2.cell
 have f3:=l3.cell
 rcases hr with ⟨rfl,hno⟩ | ⟨k,x,rfl,hk,hp,hn⟩
 ·have HR:=hide (show resultM R P=restM R P by unfold resultM; rw [find_none hno])
  have L1:=hide l1
  have L2:=hide l2
  have L3:=hide l3
  clear hno x3 l1 l2 l3
  by_cases hq : R.quiet=0
  ·have tq : (R.quiet != 0)=false:=by simpa using hq
   have HR2:=hide (show resultM R P=_ from HR.out.trans (by unfold restM; rw [if_neg (fun h => h.1 hq)]))
   clear HR hq
   go_wp2_with fail
   refine (HL.out _ X3.out).mono ?_
   rintro e w4 ⟨v4,rfl,own4,x4⟩
   have X4:=hide (ext_trans X3.out x4)
   have m1:=(L1.out.ext x4).cell
   have m2:=(L2.out.ext x4).cell
   have m3:=(L3.out.ext x4).cell
   obtain ⟨A4,c4,rfl,-⟩:=own4
   have hll:=HLL.out
   clear f1 f2 f3 x4 L1 L2 L3 HL HLL
   generalize listM R P=L at *
   by_cases hl : 0 < L.length
   ·have HR3:=hide (show resultM R P=0 by rw [HR2.out,if_pos hl])
    have tl : decide (0 < L.length)=true:=by simpa using hl
    have tl2 : decide ((0 : Int) < (L.length : Int))=true:=decide_eq_true (by omega)
    clear HR2
    go_wp2
    go_ret
    exact ⟨by rw [HR3.out]; rfl,X4.out⟩
   ·have HR3:=hide (HR2.out.trans (if_neg hl))
    have tl : decide (0 < L.length)=false:=by simpa using hl
    have tl2 : decide ((0 : Int) < (L.length : Int))=false:=decide_eq_false (by omega)
    clear HR2
    by_cases hb : R.blocked=0
    ·have HR4:=hide (HR3.out.trans (if_pos hb))
     have tb : (R.blocked == 0)=true:=by simpa using hb
     clear HR3 hb hl
     go_wp2_with fail
     refine (wins_any _ _ (by omega) (by omega)).mono ?_
     rintro e w' ⟨rfl,rfl⟩
     go_wp2
     go_ret
     exact ⟨by rw [HR4.out]; rfl,X4.out⟩
    ·have HR4:=hide (HR3.out.trans (if_neg hb))
     have tb : (R.blocked == 0)=false:=by simpa using hb
     clear HR3 hb hl
     by_cases hb : R.blocked=1
     ·have HR5:=hide (HR4.out.trans (if_pos hb))
      have tb1 : (R.blocked == 1)=true:=by simpa using hb
      clear HR4 hb
      go_wp2_with fail
      refine (wins_any _ _ (by omega) (by omega)).mono ?_
      rintro e w' ⟨rfl,rfl⟩
      go_wp2
      go_ret
      exact ⟨by rw [HR5.out]; rfl,X4.out⟩
     ·have HR5:=hide (HR4.out.trans (if_neg hb))
      have tb1 : (R.blocked == 1)=false:=by simpa using hb
      clear HR4 hb
      go_wp2
      go_ret
      exact ⟨by rw [HR5.out]; rfl,X4.out⟩
  ·have tq : (R.quiet != 0)=true:=by simpa using hq
   by_cases hle : R.quiet≤P.quiet
   ·have HR2:=hide (show resultM R P=3 from HR.out.trans (by unfold restM; rw [if_pos ⟨hq,hle⟩]))
    clear HR hq
    go_wp2
    go_ret
    exact ⟨by rw [HR2.out]; rfl,X3.out⟩
   ·have HR2:=hide (show resultM R P=_ from HR.out.trans (by unfold restM; rw [if_neg (fun h => hle h.2)]))
    have hlt : P.quiet < R.quiet:=by omega
    clear HR hq hle
    go_wp2_with fail
    refine (HL.out _ X3.out).mono ?_
    rintro e w4 ⟨v4,rfl,own4,x4⟩
    have X4:=hide (ext_trans X3.out x4)
    have m1:=(L1.out.ext x4).cell
    have m2:=(L2.out.ext x4).cell
    have m3:=(L3.out.ext x4).cell
    obtain ⟨A4,c4,rfl,-⟩:=own4
    have hll:=HLL.out
    clear f1 f2 f3 x4 L1 L2 L3 HL HLL
    generalize listM R P=L at *
    by_cases hl : 0 < L.length
    ·have HR3:=hide (show resultM R P=0 by rw [HR2.out,if_pos hl])
     have tl : decide (0 < L.length)=true:=by simpa using hl
     have tl2 : decide ((0 : Int) < (L.length : Int))=true:=decide_eq_true (by omega)
     clear HR2
     go_wp2
     go_ret
     exact ⟨by rw [HR3.out]; rfl,X4.out⟩
    ·have HR3:=hide (HR2.out.trans (if_neg hl))
     have tl : decide (0 < L.length)=false:=by simpa using hl
     have tl2 : decide ((0 : Int) < (L.length : Int))=false:=decide_eq_false (by omega)
     clear HR2
     by_cases hb : R.blocked=0
     ·have HR4:=hide (HR3.out.trans (if_pos hb))
      have tb : (R.blocked == 0)=true:=by simpa using hb
      clear HR3 hb hl
      go_wp2_with fail
      refine (wins_any _ _ (by omega) (by omega)).mono ?_
      rintro e w' ⟨rfl,rfl⟩
      go_wp2
      go_ret
      exact ⟨by rw [HR4.out]; rfl,X4.out⟩
     ·have HR4:=hide (HR3.out.trans (if_neg hb))
      have tb : (R.blocked == 0)=false:=by simpa using hb
      clear HR3 hb hl
      by_cases hb : R.blocked=1
      ·have HR5:=hide (HR4.out.trans (if_pos hb))
       have tb1 : (R.blocked == 1)=true:=by simpa using hb
       clear HR4 hb
       go_wp2_with fail
       refine (wins_any _ _ (by omega) (by omega)).mono ?_
       rintro e w' ⟨rfl,rfl⟩
       go_wp2
       go_ret
       exact ⟨by rw [HR5.out]; rfl,X4.out⟩
      ·have HR5:=hide (HR4.out.trans (if_neg hb))
       have tb1 : (R.blocked == 1)=false:=by simpa using hb
       clear HR4 hb
       go_wp2
       go_ret
       exact ⟨by rw [HR5.out]; rfl,X4.out⟩
 ·have HR:=hide (show resultM R P=if x.loses then 1 + P.turn else 1 + (1 - P.turn) by unfold resultM; rw [find_first hk hp hn])
  obtain ⟨b,o,rfl,-,-,-,d3⟩:=EndsAt.get (CellsAt.ext HE2.out x3) hk
  have hkl : k < R.ends.length:=(List.getElem?_eq_some_iff.1 hk).1
  have j0 : (0 : Int)≤(k : Int):=by omega
  have j1 : (k : Int) < (R.ends.length : Int):=by omega
  clear hk hp hn x3 l1 l2 l3 hkl
  cases hl : x.loses
  ·rw [hl] at d3
   have HR2:=hide (show resultM R P=1 + (1 - P.turn) by rw [HR.out,hl]; rfl)
   clear hl HR
   go_wp2_with fail
   refine (wins_any _ _ (by omega) (by omega)).mono ?_
   rintro e w' ⟨rfl,rfl⟩
   go_wp2
   go_ret
   exact ⟨by rw [HR2.out]; rfl,X3.out⟩
  ·rw [hl] at d3
   have HR2:=hide (show resultM R P=1 + P.turn by rw [HR.out,hl]; rfl)
   clear hl HR
   go_wp2_with fail
   refine (wins_any _ _ (by omega) (by omega)).mono ?_
   rintro e w' ⟨rfl,rfl⟩
   go_wp2
   go_ret
   exact ⟨by rw [HR2.out]; rfl,X3.out⟩
end Go.Proofs.YtdoibgmmijhlfaaGreatDoor
namespace Go.Proofs.YtdoibgmmijhlfaaGreatDoor
open Go.ChangeShapes Go.WideShapes Go.ChangeAt Go.RowKit Go.Shelf
set_option linter.unusedVariables false
set_option linter.unusedSimpArgs false
def NowPost (W : World) (P : PosM) (e : Ending) (w' : World) : Prop:=∃ v,e=.returned v∧PosI w' v P∧Ext W w'
theorem RulesOwn.ext {w W : World} {base : Nat} {v : Value} {R : RulesM} (h : RulesOwn w base v R) (x : Ext w W) : RulesOwn W base v R:=h.tfr (ts:=[]) ⟨by decide,by decide,by decide,by decide⟩ (TFr.of_ext x)
def Fit (ps : List PosM) : Prop:=∀ Q ∈ ps,1≤Q.cells.length∧1≤Q.hand0.length∧1≤Q.hand1.length∧Q.cells.length≤100000∧Q.hand0.length≤100000∧Q.hand1.length≤100000
theorem PosI.far5 {w : World} {B : Nat} {cs : Array Value} {v : Value} {P : PosM} {u0 u1 u2 u3 u4 : Value} (h : PosI w v P) (k : Blk w B 43 cs) :
  PosI (((((w.setCell ⟨B,0,none⟩ u0).setCell ⟨B,1,none⟩ u1).setCell ⟨B,2,none⟩ u2).setCell ⟨B,3,none⟩ u3).setCell ⟨B,4,none⟩ u4) v P:=by
 have k0:=k.set_ 0 u0
 have k1:=k0.set_ 1 u1
 have k2:=k1.set_ 2 u2
 have k3:=k2.set_ 3 u3
 have m:=List.mem_singleton.2 (rfl : 43=43)
 exact h.tfr (ts:=[43]) (by decide) (((((TFr.set k m 0 u0).trans (TFr.set k0 m 1 u1)).trans (TFr.set k1 m 2 u2)).trans (TFr.set k2 m 3 u3)).trans (TFr.set k3 m 4 u4))
theorem last_mem {ps : List PosM} {P : PosM} (h : ps.getLast? = some P) : P ∈ ps:=List.mem_of_getLast? h
theorem fit_of {R : RulesM} {ps : List PosM} (hV : Valid R) (hS : ∀ Q ∈ ps,Sound R Q) : Fit ps:=fun Q hQ => by
 have h:=hS Q hQ
 have har:=area_bd _ _ hV.side
 have ha:=h.area
 have hp0:=hV.pieces0
 have hp6:=hV.pieces6
 have h0:=h.len0
 have h1:=h.len1
 omega
theorem posInfo : (Tryz.prog.info? 43).map (fun i => (i.zero,i.size,i.bytes))=some (some (.agg #[.slice none 0 0,.slice none 0 0,.slice none 0 0,.int .i64 0,.int .i64 0]),5,88):=by kernel_rfl
theorem ite_yes' {c : Prop} [Decidable c] {A B : Prop} (hc : c) (h : A) : if c then A else B:=by rw [if_pos hc]; exact h
set_option maxHeartbeats 1000000 in
theorem oper_append_pos {o : Oper} {a : Act} {K : Act→World→Prop} {Q : Exit→Act→World→Prop} (s x : Operand)
  (ho : o.op=.call { callee:=.builtin .append,args:=#[s,x],argTypes:=#[90,90] }) (w0 w : World) (v : Value) (ps : List PosM) (P : PosM) (g0 g1 g2 d0 d1 d2 : Nat)
  (hp : PosI w (.agg #[.slice (some ⟨g0,0,none⟩) P.cells.length d0,.slice (some ⟨g1,0,none⟩) P.hand0.length d1,.slice (some ⟨g2,0,none⟩) P.hand1.length d2,.int .i64 P.turn,.int .i64 P.quiet]) P) (hs : a.eval s=v) (hown : OwnP w0 w v ps) (hx : a.eval x=.slice (some ⟨w.heap.size,0,none⟩) 1 1)
  (hext : Ext w0 w) (hlen : ps.length≤1000000) (h : ∀ v' w',OwnP w0 w' v' (ps ++ [P])→Ext w0 w'→w.grownBy w' v.ownBlock→TFr [43] w w'→K (a.put o.dst v') w') :
  Oper.wp Tryz.prog o a (w.alloc (.cells #[.slice (some ⟨g0,0,none⟩) P.cells.length d0,.slice (some ⟨g1,0,none⟩) P.hand0.length d1,.slice (some ⟨g2,0,none⟩) P.hand1.length d2,.int .i64 P.turn,.int .i64 P.quiet] 43)) K Q:=by
 obtain ⟨A,c,vss,rfl,hown,hcs⟩:=hown
 obtain ⟨i0,hi,hz0,hz1,hz2⟩:=info_parts posInfo
 have hsz:=hext.size
 obtain ⟨v',w',hrun,h2,h3⟩:=run_append_cells (P:=Tryz.prog) _ w0.heap.size 90 o.type 43 i0 (.agg #[.slice none 0 0,.slice none 0 0,.slice none 0 0,.int .i64 0,.int .i64 0]) 5 88 Tryz.underlying90 hi hz0 hz1 hz2 rfl (by decide) _ ps.length vss.flatten (own_ext hown (ext_alloc (Below.refl _ _) _)) (some ⟨w.heap.size,0,none⟩) 1 1 [.slice (some ⟨g0,0,none⟩) P.cells.length d0,.slice (some ⟨g1,0,none⟩) P.hand0.length d1,.slice (some ⟨g2,0,none⟩) P.hand1.length d2,.int .i64 P.turn,.int .i64 P.quiet] rfl (cellsAt_new w 43 [.slice (some ⟨g0,0,none⟩) P.cells.length d0,.slice (some ⟨g1,0,none⟩) P.hand0.length d1,.slice (some ⟨g2,0,none⟩) P.hand1.length d2,.int .i64 P.turn,.int .i64 P.quiet]) (by simp [Value.oneCell']) (by simp only [maxLen]; omega) (by omega) (by simp; omega) (by simp)
 unfold Oper.wp execOp
 simp only [ho,resolve,invoke,builtin,Sem.run_bind,Sem.run_pure,Result.andThen_ok,List.map_toArray,List.map_cons,List.map_nil,hs,hx,hrun]
 obtain ⟨A',c',rfl,_,_⟩:=own_shape h2
 have f : TFr [43] w w':=(TFr.of_ext (ext_alloc (Below.refl _ _) _)).trans (TFr.grown (own_ext hown (ext_alloc (Below.refl _ _) _)) (List.mem_singleton.2 rfl) h3)
 refine h _ w' ⟨A',c',vss ++ [[.slice (some ⟨g0,0,none⟩) P.cells.length d0,.slice (some ⟨g1,0,none⟩) P.hand0.length d1,.slice (some ⟨g2,0,none⟩) P.hand1.length d2,.int .i64 P.turn,.int .i64 P.quiet]],by simp,by simpa using h2,(hcs.tfr (by decide) f).snoc rfl (hp.tfr (by decide) f)⟩ (ext_grown (ext_alloc hext _) h3 (own_row hown)) ?_ f
 exact ⟨h3.os,h3.tape,h3.output,by have:=h3.size; simp at this; omega,fun b hb hn => by
  rw [h3.block b (by simp; omega) hn]
  exact Below.heap_alloc w _ b hb⟩
theorem OwnM.tfr {ts : List TypeId} {w0 w W : World} {v : Value} {ms : List MoveM} (h : OwnM w0 w v ms) (he : 47 ∉ ts) (f : TFr ts w W) : OwnM w0 W v ms:=by
 obtain ⟨A,c,rfl,h⟩:=h
 exact ⟨A,c,rfl,own_tfr h he f⟩
theorem OwnP.tfr {ts : List TypeId} {w0 w W : World} {v : Value} {ps : List PosM} (h : OwnP w0 w v ps) (he : 43 ∉ ts) (hi : 3 ∉ ts) (f : TFr ts w W) : OwnP w0 W v ps:=by
 obtain ⟨A,c,vss,rfl,h,k⟩:=h
 exact ⟨A,c,vss,rfl,own_tfr h he f,k.tfr hi f⟩
theorem ownP_one {w0 w : World} {BL : Nat} {P : PosM} {g0 g1 g2 d0 d1 d2 : Nat} (k : Blk w BL 43 #[.slice (some ⟨g0,0,none⟩) P.cells.length d0,.slice (some ⟨g1,0,none⟩) P.hand0.length d1,.slice (some ⟨g2,0,none⟩) P.hand1.length d2,.int .i64 P.turn,.int .i64 P.quiet]) (hb : w0.heap.size≤BL) (hp : PosI w (.agg #[.slice (some ⟨g0,0,none⟩) P.cells.length d0,.slice (some ⟨g1,0,none⟩) P.hand0.length d1,.slice (some ⟨g2,0,none⟩) P.hand1.length d2,.int .i64 P.turn,.int .i64 P.quiet]) P) : OwnP w0 w (.slice (some ⟨BL,0,none⟩) 1 1) [P] :=
 ⟨_,1,[[.slice (some ⟨g0,0,none⟩) P.cells.length d0,.slice (some ⟨g1,0,none⟩) P.hand0.length d1,.slice (some ⟨g2,0,none⟩) P.hand1.length d2,.int .i64 P.turn,.int .i64 P.quiet]],rfl,⟨rfl,.inr ⟨BL,1,#[.slice (some ⟨g0,0,none⟩) P.cells.length d0,.slice (some ⟨g1,0,none⟩) P.hand0.length d1,.slice (some ⟨g2,0,none⟩) P.hand1.length d2,.int .i64 P.turn,.int .i64 P.quiet],rfl,hb,k,Nat.le_refl _,by simp [maxLen],rfl,rfl⟩⟩,rfl,fun i c Q a b => by
  rcases i with _ | i
  ·simp only [List.getElem?_cons_zero,Option.some.injEq] at a b
   subst a b
   exact ⟨rfl,hp⟩
  ·simp at a⟩
end Go.Proofs.YtdoibgmmijhlfaaGreatDoor
namespace Go.Proofs.YtdoibgmmijhlfaaGreatDoor
open Go.ChangeShapes Go.WideShapes Go.ChangeAt Go.RowKit Go.Shelf
set_option linter.unusedVariables false
set_option linter.unusedSimpArgs false
def tsG : List TypeId:=[43,47,92]
theorem int_tsG : 3 ∉ tsG:=by decide
theorem rules_tsG : rulesT tsG:=⟨by decide,by decide,by decide,by decide⟩
def GameAt (w0 W : World) (BG : Nat) (R : RulesM) (ps : List PosM) (ms : List MoveM) : Prop :=
 ∃ pA pc sA sc eA ec base l m,Blk W BG 92 #[.string R.name,.int .i64 R.width,.int .i64 R.height,.slice pA R.pieces.length pc,.slice sA R.start.length sc,.bool R.falls,.bool R.keeps,.slice eA R.ends.length ec,.int .i64 R.blocked,.int .i64 R.quiet,.int .i64 R.rept,l,m]∧RulesOwn W base (.agg #[.string R.name,.int .i64 R.width,.int .i64 R.height,.slice pA R.pieces.length pc,.slice sA R.start.length sc,.bool R.falls,.bool R.keeps,.slice eA R.ends.length ec,.int .i64 R.blocked,.int .i64 R.quiet,.int .i64 R.rept]) R∧OwnP w0 W l ps∧OwnM w0 W m ms∧w0.heap.size≤BG∧Ext w0 W
theorem GameAt.ext {w0 w W : World} {BG : Nat} {R : RulesM} {ps : List PosM} {ms : List MoveM} (h : GameAt w0 w BG R ps ms) (x : Ext w W) : GameAt w0 W BG R ps ms:=by
 obtain ⟨pA,pc,sA,sc,eA,ec,base,l,m,h1,h2,h3,h4,h5,h6⟩:=h
 exact ⟨pA,pc,sA,sc,eA,ec,base,l,m,h1.ext x,h2.ext x,h3.ext x,h4.ext x,h5,ext_trans h6 x⟩
theorem GameAt.old {w0 w : World} {BG : Nat} {R : RulesM} {ps : List PosM} {ms : List MoveM} (h : GameAt w0 w BG R ps ms) : Ext w0 w:=by
 obtain ⟨pA,pc,sA,sc,eA,ec,base,l,m,h1,h2,h3,h4,h5,h6⟩:=h
 exact h6
def countG (ps : List PosM) (P : PosM) : Nat:=(ps.filter fun Q => sameB Q P).length
theorem countG_take {ps : List PosM} {P Q : PosM} {k : Nat} (h : ps[k]? = some Q) : countG (ps.take (k + 1)) P=countG (ps.take k) P + if sameB Q P then 1 else 0:=by
 unfold countG
 rw [List.take_add_one,h,List.filter_append,List.length_append]
 congr 1
 cases hs : sameB Q P <;> simp [hs]
theorem countG_le (ps : List PosM) (P : PosM) : countG ps P≤ps.length:=List.length_filter_le _ _
def resultG (R : RulesM) (ps : List PosM) (P : PosM) : Int:=if resultM R P=0∧R.rept ≠ 0∧R.rept≤(countG ps P : Int) then 3 else resultM R P
set_option maxHeartbeats 2000000 in
set_option maxRecDepth 100000 in
theorem now_any {w0 W : World} {BG : Nat} {R : RulesM} {ps : List PosM} {ms : List MoveM} (hG : GameAt w0 W BG R ps ms) (hl : ps.length≤1000000) {P : PosM} (hP : ps.getLast? = some P) :
  Calls Tryz.prog 45 #[.pointer (some ⟨BG,0,none⟩)] W (NowPost W P):=by
 obtain ⟨pA,pc,sA,sc,eA,ec,base,l,m,h1,-,h3,-,-,-⟩:=hG
 have hpos : 1≤ps.length:=by
  rcases ps with _ | ⟨x,l⟩
  ·simp at hP
  ·simp
 obtain ⟨k,hk⟩ : ∃ k,k + 1=ps.length:=⟨ps.length - 1,by omega⟩
 have hk' : ps[k]? = some P:=by
  rw [List.getLast?_eq_getElem?] at hP
  rw [← hP]; congr 1; omega
 obtain ⟨g,cap,c0,c1,c2,c3,c4,rfl,hp,q0,q1,q2,q3,q4⟩:=pos_get h3 hk'
 have HP0:=hide hp
 obtain ⟨g0,d0,g1,d1,g2,d2,e,-⟩:=hp
 simp only [Value.agg.injEq,Array.mk.injEq,List.cons.injEq,and_true] at e
 obtain ⟨rfl,rfl,rfl,rfl,rfl⟩:=e
 obtain ⟨xa,kO⟩:=blks1 W #[.slice none 0 0,.slice none 0 0,.slice none 0 0,.int .i64 0,.int .i64 0] 43
 have KO:=hide kO
 have X1:=hide xa
 have f:=(h1.ext xa).cell
 replace q0:=xa.cell q0
 replace q1:=xa.cell q1
 replace q2:=xa.cell q2
 replace q3:=xa.cell q3
 replace q4:=xa.cell q4
 have hw : IntKind.i64.wrap ((ps.length : Int) - 1)=(k : Int):=by rw [IntKind.wrap_i64]; omega
 have i0 : (0 : Int)≤(k : Int):=by omega
 have i1 : (k : Int) < (ps.length : Int):=by omega
 have hkl : k < ps.length:=by omega
 have HLT:=hide (Nat.le_refl W.heap.size)
 clear h1 h3 hk' hP hpos kO xa
 go_enter Tryz.func45,Tryz.ntmps45
 go_upto_region 1 with fail
 generalize W.alloc (.cells #[.slice none 0 0,.slice none 0 0,.slice none 0 0,.int .i64 0,.int .i64 0] 43)=w1 at *
 generalize hBO : W.heap.size=BO at *
 have HBO:=hide hBO
 clear hBO
 have gz:=KO.out.frozen
 have gc:=KO.out.cell
 go_still_tail 12,(by kernel_rfl)
 go_wp2
 have K9:=Blk.drew (blk_put (i:=4) (u:=.int .i64 P.quiet) (blk_put (i:=3) (u:=.int .i64 P.turn) (blk_put (i:=2) (u:=.slice (some ⟨g2,0,none⟩) P.hand1.length d2) (blk_put (i:=1) (u:=.slice (some ⟨g1,0,none⟩) P.hand0.length d1) (blk_put (i:=0) (u:=.slice (some ⟨g0,0,none⟩) P.cells.length d0) KO.out rfl) rfl) rfl) rfl) (cs':=#[.slice (some ⟨g0,0,none⟩) P.cells.length d0,.slice (some ⟨g1,0,none⟩) P.hand0.length d1,.slice (some ⟨g2,0,none⟩) P.hand1.length d2,.int .i64 P.turn,.int .i64 P.quiet]) rfl)
 have X9:=Below.drew ((ext_set (ext_set (ext_set (ext_set (ext_set X1.out (p:=⟨BO,0,none⟩) (Nat.le_of_eq HBO.out) (.slice (some ⟨g0,0,none⟩) P.cells.length d0)) (p:=⟨BO,1,none⟩) (Nat.le_of_eq HBO.out) (.slice (some ⟨g1,0,none⟩) P.hand0.length d1)) (p:=⟨BO,2,none⟩) (Nat.le_of_eq HBO.out) (.slice (some ⟨g2,0,none⟩) P.hand1.length d2)) (p:=⟨BO,3,none⟩) (Nat.le_of_eq HBO.out) (.int .i64 P.turn)) (p:=⟨BO,4,none⟩) (Nat.le_of_eq HBO.out) (.int .i64 P.quiet)))
 generalize (((((w1.setCell ⟨BO,0,none⟩ (.slice (some ⟨g0,0,none⟩) P.cells.length d0)).setCell ⟨BO,1,none⟩ (.slice (some ⟨g1,0,none⟩) P.hand0.length d1)).setCell ⟨BO,2,none⟩ (.slice (some ⟨g2,0,none⟩) P.hand1.length d2)).setCell ⟨BO,3,none⟩ (.int .i64 P.turn)).setCell ⟨BO,4,none⟩ (.int .i64 P.quiet)).drew=Wf at *
 clear gz gc
 have rr0 : Wf.cell? ⟨BO,0,none⟩=some (.slice (some ⟨g0,0,none⟩) P.cells.length d0):=K9.cell 0
 have rr1 : Wf.cell? ⟨BO,1,none⟩=some (.slice (some ⟨g1,0,none⟩) P.hand0.length d1):=K9.cell 1
 have rr2 : Wf.cell? ⟨BO,2,none⟩=some (.slice (some ⟨g2,0,none⟩) P.hand1.length d2):=K9.cell 2
 have rr3 : Wf.cell? ⟨BO,3,none⟩=some (.int .i64 P.turn):=K9.cell 3
 have rr4 : Wf.cell? ⟨BO,4,none⟩=some (.int .i64 P.quiet):=K9.cell 4
 refine bodyPost_ret (v:=.agg #[.slice (some ⟨g0,0,none⟩) P.cells.length d0,.slice (some ⟨g1,0,none⟩) P.hand0.length d1,.slice (some ⟨g2,0,none⟩) P.hand1.length d2,.int .i64 P.turn,.int .i64 P.quiet]) ?_ rfl ?_
 ·simp [results,Tryz.results45,go_sem,rr0,rr1,rr2,rr3,rr4]
 ·exact ⟨_,rfl,HP0.out.ext X9,X9⟩
end Go.Proofs.YtdoibgmmijhlfaaGreatDoor
namespace Go.Proofs.YtdoibgmmijhlfaaGreatDoor
open Go.ChangeShapes Go.WideShapes Go.ChangeAt Go.RowKit Go.Shelf
set_option linter.unusedVariables false
set_option linter.unusedSimpArgs false
set_option maxHeartbeats 2000000 in
set_option maxRecDepth 100000 in
theorem GPosition_any {w0 W : World} {BG : Nat} {R : RulesM} {ps : List PosM} {ms : List MoveM} (hG : GameAt w0 W BG R ps ms) (hl : ps.length≤1000000) (hF : Fit ps) {P : PosM} (hP : ps.getLast? = some P) :
  Calls Tryz.prog 11 #[.pointer (some ⟨BG,0,none⟩)] W (NowPost W P):=by
 have HNW:=hide (fun W' (x : Ext W W') => now_any (hG.ext x) hl hP)
 obtain ⟨f0,f1,f2,f3,f4,f5⟩:=hF P (last_mem hP)
 have HCP:=hide (fun W' (v : Value) (h : PosI W' v P) => PCopy_any P v W' h.at_ f0 f1 f2 f3 f4 f5)
 clear hG hl hF hP f0 f1 f2 f3 f4 f5
 obtain ⟨xa,kO⟩:=blks1 W #[.slice none 0 0,.slice none 0 0,.slice none 0 0,.int .i64 0,.int .i64 0] 43
 have KO:=hide kO
 have X1:=hide xa
 have HLT:=hide (Nat.le_refl W.heap.size)
 clear kO xa
 go_enter Tryz.func11,Tryz.ntmps11
 go_wp2_with fail
 refine (HNW.out _ X1.out).mono ?_
 rintro e w2 ⟨v2,rfl,p2,x2⟩
 have P2:=hide p2
 have X2:=hide (ext_trans X1.out x2)
 have KO2:=hide (KO.out.ext x2)
 clear p2 x2 KO X1 HNW
 generalize hBO : W.heap.size=BO at *
 have HBO:=hide hBO
 clear hBO
 go_wp2_with fail
 refine (HCP.out _ _ P2.out).mono ?_
 rintro e w3 ⟨v3,rfl,p3,x3⟩
 have HP0:=hide p3.toI
 have hp:=p3.toI
 obtain ⟨g0,d0,g1,d1,g2,d2,rfl,-⟩:=hp
 have X3:=hide (ext_trans X2.out x3)
 have KO3:=hide (KO2.out.ext x3)
 clear p3 x3 KO2 X2 P2 HCP
 have gz:=KO3.out.frozen
 have gc:=KO3.out.cell
 go_wp2
 have K9:=blk_put (i:=4) (u:=.int .i64 P.quiet) (blk_put (i:=3) (u:=.int .i64 P.turn) (blk_put (i:=2) (u:=.slice (some ⟨g2,0,none⟩) P.hand1.length d2) (blk_put (i:=1) (u:=.slice (some ⟨g1,0,none⟩) P.hand0.length d1) (blk_put (i:=0) (u:=.slice (some ⟨g0,0,none⟩) P.cells.length d0) KO3.out rfl) rfl) rfl) rfl) (cs':=#[.slice (some ⟨g0,0,none⟩) P.cells.length d0,.slice (some ⟨g1,0,none⟩) P.hand0.length d1,.slice (some ⟨g2,0,none⟩) P.hand1.length d2,.int .i64 P.turn,.int .i64 P.quiet]) rfl
 have X9:=(ext_set (ext_set (ext_set (ext_set (ext_set X3.out (p:=⟨BO,0,none⟩) (Nat.le_of_eq HBO.out) (.slice (some ⟨g0,0,none⟩) P.cells.length d0)) (p:=⟨BO,1,none⟩) (Nat.le_of_eq HBO.out) (.slice (some ⟨g1,0,none⟩) P.hand0.length d1)) (p:=⟨BO,2,none⟩) (Nat.le_of_eq HBO.out) (.slice (some ⟨g2,0,none⟩) P.hand1.length d2)) (p:=⟨BO,3,none⟩) (Nat.le_of_eq HBO.out) (.int .i64 P.turn)) (p:=⟨BO,4,none⟩) (Nat.le_of_eq HBO.out) (.int .i64 P.quiet))
 have P9:=PosI.far5 (u0:=.slice (some ⟨g0,0,none⟩) P.cells.length d0) (u1:=.slice (some ⟨g1,0,none⟩) P.hand0.length d1) (u2:=.slice (some ⟨g2,0,none⟩) P.hand1.length d2) (u3:=.int .i64 P.turn) (u4:=.int .i64 P.quiet) HP0.out KO3.out
 generalize (((((w3.setCell ⟨BO,0,none⟩ (.slice (some ⟨g0,0,none⟩) P.cells.length d0)).setCell ⟨BO,1,none⟩ (.slice (some ⟨g1,0,none⟩) P.hand0.length d1)).setCell ⟨BO,2,none⟩ (.slice (some ⟨g2,0,none⟩) P.hand1.length d2)).setCell ⟨BO,3,none⟩ (.int .i64 P.turn)).setCell ⟨BO,4,none⟩ (.int .i64 P.quiet))=Wf at *
 clear gz gc
 have rr0 : Wf.cell? ⟨BO,0,none⟩=some (.slice (some ⟨g0,0,none⟩) P.cells.length d0):=K9.cell 0
 have rr1 : Wf.cell? ⟨BO,1,none⟩=some (.slice (some ⟨g1,0,none⟩) P.hand0.length d1):=K9.cell 1
 have rr2 : Wf.cell? ⟨BO,2,none⟩=some (.slice (some ⟨g2,0,none⟩) P.hand1.length d2):=K9.cell 2
 have rr3 : Wf.cell? ⟨BO,3,none⟩=some (.int .i64 P.turn):=K9.cell 3
 have rr4 : Wf.cell? ⟨BO,4,none⟩=some (.int .i64 P.quiet):=K9.cell 4
 refine bodyPost_ret (v:=.agg #[.slice (some ⟨g0,0,none⟩) P.cells.length d0,.slice (some ⟨g1,0,none⟩) P.hand0.length d1,.slice (some ⟨g2,0,none⟩) P.hand1.length d2,.int .i64 P.turn,.int .i64 P.quiet]) ?_ rfl ?_
 ·simp [results,Tryz.results11,go_sem,rr0,rr1,rr2,rr3,rr4]
 ·exact ⟨_,rfl,P9,X9⟩
set_option maxHeartbeats 2000000 in
set_option maxRecDepth 100000 in
theorem GCount_any {w0 W : World} {BG : Nat} {R : RulesM} {ps : List PosM} {ms : List MoveM} (hG : GameAt w0 W BG R ps ms) (hl : ps.length≤1000000) (hF : Fit ps) {P : PosM} (hP : ps.getLast? = some P) :
  Calls Tryz.prog 47 #[.pointer (some ⟨BG,0,none⟩)] W fun e w' => e=.returned (.int .i64 (countG ps P : Int))∧Ext W w':=by
 have HNW:=hide (fun W' (x : Ext W W') => now_any (hG.ext x) hl hP)
 have HFT:=hide hF
 have HPF:=hide (hF P (last_mem hP))
 have HLL:=hide hl
 obtain ⟨pA,pc,sA,sc,eA,ec,base,l,m,h1,-,h3,-,-,-⟩:=hG
 have HOP:=hide h3
 have hpos : 0 < ps.length:=by
  rcases ps with _ | ⟨x,l⟩
  ·simp at hP
  ·simp
 have h0 : ps[0]? = some ps[0]:=List.getElem?_eq_getElem hpos
 obtain ⟨g,cap,-,-,-,-,-,rfl,-⟩:=pos_get h3 h0
 have f:=h1.cell
 have HKG:=hide h1
 clear h1 h3 hP hF h0 hpos
 go_enter Tryz.func47,Tryz.ntmps47
 go_wp2
 go_loopw [3,11] (fun n i wr => ∃ k : Nat,k≤ps.length∧i=.int .i64 k∧n=.int .i64 (countG (ps.take k) P : Int)∧Ext W wr) (fun _ i _ => ps.length - (intOf i).toNat)
 case atStart => exact ⟨0,Nat.zero_le _,rfl,rfl,Below.refl _ _⟩
 case round =>
  obtain ⟨k,hk,rfl,rfl,xr⟩:=hrel
  by_cases hlt : k < ps.length
  ·obtain ⟨Q,hQ⟩ : ∃ Q,ps[k]? = some Q:=⟨ps[k],List.getElem?_eq_getElem _⟩
   obtain ⟨g',cap',c0,c1,c2,c3,c4,e',hp,q0,q1,q2,q3,q4⟩:=pos_get (HOP.out.ext xr) hQ
   simp only [Value.slice.injEq,Option.some.injEq,Addr.mk.injEq,and_true,true_and] at e'
   obtain ⟨rfl,rfl⟩:=e'
   have HPQ:=hide hp
   obtain ⟨g0,d0,g1,d1,g2,d2,e,-⟩:=hp
   simp only [Value.agg.injEq,Array.mk.injEq,List.cons.injEq,and_true] at e
   obtain ⟨rfl,rfl,rfl,rfl,rfl⟩:=e
   have HQF:=hide (HFT.out Q (List.mem_of_getElem? hQ))
   have HCT:=hide (countG_take (P:=P) hQ)
   have hcl:=countG_le (ps.take k) P
   have HSM:=hide (fun W' (v : Value) (x : Ext wr W') (h : PosI W' v P) => PSame_any Q P _ v W' (HPQ.out.ext x).at_ h.at_ HQF.out.2.2.2.1 HQF.out.2.2.2.2.1 HQF.out.2.2.2.2.2 HPF.out.2.2.2.1 HPF.out.2.2.2.2.1 HPF.out.2.2.2.2.2)
   have HXR:=hide xr
   have HNW2:=hide (fun W' (x : Ext wr W') => HNW.out W' (ext_trans HXR.out x))
   rw [List.length_take] at hcl
   clear hQ xr f
   go_upto_region 5 with fail
   obtain ⟨x5,kV⟩:=blks1 wr #[.slice (some ⟨g0,0,none⟩) Q.cells.length d0,.slice (some ⟨g1,0,none⟩) Q.hand0.length d1,.slice (some ⟨g2,0,none⟩) Q.hand1.length d2,.int .i64 Q.turn,.int .i64 Q.quiet] 43
   have KV:=hide kV
   have X5:=hide x5
   clear x5 kV q0 q1 q2 q3 q4
   generalize wr.alloc (.cells #[.slice (some ⟨g0,0,none⟩) Q.cells.length d0,.slice (some ⟨g1,0,none⟩) Q.hand0.length d1,.slice (some ⟨g2,0,none⟩) Q.hand1.length d2,.int .i64 Q.turn,.int .i64 Q.quiet] 43)=w5 at *
   generalize wr.heap.size=BV at *
   have keepK:=hide (fun W (h : Ext w5 W) => (show (fun W => W.cell? ⟨BV,0,none⟩=some (.slice (some ⟨g0,0,none⟩) Q.cells.length d0)∧W.cell? ⟨BV,1,none⟩=some (.slice (some ⟨g1,0,none⟩) Q.hand0.length d1)∧W.cell? ⟨BV,2,none⟩=some (.slice (some ⟨g2,0,none⟩) Q.hand1.length d2)∧W.cell? ⟨BV,3,none⟩=some (.int .i64 Q.turn)∧W.cell? ⟨BV,4,none⟩=some (.int .i64 Q.quiet)∧Ext w5 W) W from ⟨(KV.out.ext h).cell 0,(KV.out.ext h).cell 1,(KV.out.ext h).cell 2,(KV.out.ext h).cell 3,(KV.out.ext h).cell 4,h⟩))
   have yy : Ext w5 w5.drew:=Below.drew (Below.refl _ _)
   refine region_K (fun W => W.cell? ⟨BV,0,none⟩=some (.slice (some ⟨g0,0,none⟩) Q.cells.length d0)∧W.cell? ⟨BV,1,none⟩=some (.slice (some ⟨g1,0,none⟩) Q.hand0.length d1)∧W.cell? ⟨BV,2,none⟩=some (.slice (some ⟨g2,0,none⟩) Q.hand1.length d2)∧W.cell? ⟨BV,3,none⟩=some (.int .i64 Q.turn)∧W.cell? ⟨BV,4,none⟩=some (.int .i64 Q.quiet)∧Ext w5 W) (fun _ => True) [] (by kernel_rfl) ?_
   have hT0:=keepK.out _ yy
   refine tl 0 hT0 (fun _=>trivial) (v:=?_) (fun W hW=>?_) ?_
   rotate_left
   ·obtain ⟨z0,z1,z2,z3,z4,z5⟩:=hW;go_simp;first|done|with_reducible rfl
   refine tk 1 hT0 (fun _=>trivial) ?_
   refine anyK_on1 2 (by kernel_rfl) ?_
   refine tw 2 (fun K hK=>?_)
   go_simp
   refine (HNW2.out _ (ext_trans X5.out yy)).mono ?_
   rintro e wk ⟨v6,rfl,hp6,xx⟩
   try go_wp2_with fail
   replace yy:=ext_trans yy xx
   have HP6:=hide hp6
   clear hp6
   have hT1:=keepK.out _ yy
   refine hK.out _ _ hT1 (fun _ => trivial) ?_
   clear hK K
   try simp only [Act.put,List.setIfInBounds_toArray,List.set_cons_zero,List.set_cons_succ]
   refine anyK_on1 3 (by kernel_rfl) ?_
   refine tw 3 (fun K hK=>?_)
   go_simp
   refine (HSM.out _ _ (ext_trans X5.out yy) HP6.out).mono ?_
   rintro e wz ⟨rfl,xx⟩
   try go_wp2_with fail
   replace yy:=ext_trans yy xx
   have hT2:=keepK.out _ yy
   refine hK.out _ _ hT2 (fun _ => trivial) ?_
   clear hK K
   try simp only [Act.put,List.setIfInBounds_toArray,List.set_cons_zero,List.set_cons_succ]
   refine anyK_done (by kernel_rfl) ?_ _
   clear keepK hT0 hT1 hT2
   have XF:=hide (ext_trans HXR.out (ext_trans X5.out yy))
   clear yy KV X5 xx
   generalize countG (ps.take k) P=c at *
   cases hs : sameB Q P
   ·have HC2 : Hid (countG (ps.take (k + 1)) P=c):=hide (by rw [HCT.out,hs]; rfl)
    clear hs HCT
    go_wp2
    go_roundw
    case rel => exact ⟨k + 1,by omega,by go_num,by rw [HC2.out],XF.out⟩
    case measure => simp [intOf]; omega
   ·have HC2 : Hid (countG (ps.take (k + 1)) P=c + 1):=hide (by rw [HCT.out,hs]; rfl)
    have hwc : IntKind.i64.wrap ((c : Int) + 1)=(c : Int) + 1:=by rw [IntKind.wrap_i64]; omega
    clear hs HCT
    go_wp2
    go_roundw
    case rel => exact ⟨k + 1,by omega,by go_num,by rw [HC2.out]; push_cast; rfl,XF.out⟩
    case measure => simp [intOf]; omega
  ·obtain rfl : k=ps.length:=by omega
   have HXR:=hide xr
   rw [List.take_length]
   clear xr f
   go_wp2
   go_ret
   exact ⟨rfl,HXR.out⟩
end Go.Proofs.YtdoibgmmijhlfaaGreatDoor
