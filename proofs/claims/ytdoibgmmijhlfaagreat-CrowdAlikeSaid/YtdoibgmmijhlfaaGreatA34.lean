/- MovesAll MakeAny After -/
import Derived.Test.YtdoibgmmijhlfaaGreatA29
import Derived.Test.YtdoibgmmijhlfaaGreatA32
import Derived.Test.YtdoibgmmijhlfaaGreatA33
import Derived.Test.YtdoibgmmijhlfaaGreatA30
import Derived.Test.YtdoibgmmijhlfaaGreatA27
import Derived.Test.YtdoibgmmijhlfaaGreatA31
namespace Go.Proofs.YtdoibgmmijhlfaaGreat
open Go.ChangeShapes Go.WideShapes Go.ChangeAt Go.RowKit Go.Shelf
set_option linter.unusedVariables false
def MovesAt (w : World) (v : Value) (L : List MoveM) : Prop:=∃ A c,v=.slice A L.length c∧CellsAt w A (L.flatMap MoveM.vals)
theorem MovesAt.ext {w w' : World} {v : Value} {L : List MoveM} (h : MovesAt w v L) (he : Ext w w') : MovesAt w' v L:=by
 obtain ⟨A,c,e,h⟩:=h
 exact ⟨A,c,e,h.ext he⟩
theorem OwnM.at_ {w0 w : World} {v : Value} {L : List MoveM} (h : OwnM w0 w v L) : MovesAt w v L:=by
 obtain ⟨A,c,e,h⟩:=h
 exact ⟨A,c,e,(own_cells h).1⟩
theorem moves_get {w : World} {A : Option Addr} {L : List MoveM} (h : CellsAt w A (L.flatMap MoveM.vals)) {k : Nat} {x : MoveM} (hk : L[k]? = some x) :
  ∃ b o,A=some ⟨b,o,none⟩∧w.cell? ⟨b,o + k * 3,none⟩=some (.int .i64 x.src)∧w.cell? ⟨b,o + k * 3 + 1,none⟩=some (.int .i64 x.dst)∧w.cell? ⟨b,o + k * 3 + 2,none⟩=some (.int .i64 x.piece):=by
 have g:=fun j hj => flat_get MoveM.vals 3 (fun _ => rfl) L k j x hk hj
 obtain ⟨b,o,rfl,h0⟩:=h (k * 3 + 0) _ (g 0 (by omega))
 obtain ⟨_,_,e1,h1⟩:=h (k * 3 + 1) _ (g 1 (by omega))
 obtain ⟨_,_,e2,h2⟩:=h (k * 3 + 2) _ (g 2 (by omega))
 simp only [Option.some.injEq,Addr.mk.injEq,and_true] at e1 e2
 obtain ⟨rfl,rfl⟩:=e1
 obtain ⟨rfl,rfl⟩:=e2
 exact ⟨b,o,rfl,h0,h1,h2⟩
instance (m : MoveM) (L : List MoveM) : Decidable (m ∈ L):=inferInstance
theorem listM_len {R : RulesM} {P : PosM} (hV : Valid R) (hS : Sound R P) : (listM R P).length≤1000000:=by
 have h1:=listOf_eq (l:=rawM R P) (fun x => sortM_mem) (sortM_sorted _)
 have h2:=dedup_le (sortM (rawM R P))
 have h3:=putsM_len hV hS
 have h4:=stepsToM_len (P:=P) hV P.cells.length
 have har:=area_bd _ _ hV.side
 have ha:=hS.area
 rw [h1,sortM_length] at h2
 unfold rawM at h2
 rw [List.length_append] at h2
 unfold listM rawM
 omega
theorem Make_put (R : RulesM) (P : PosM) (v u : Value) (d q : Nat) (w : World) (hR : RulesAt w v R) (hP : PosAt w u P) (hV : Valid R) (hS : Sound R P) (hm : CanPut R P d q) :
  Calls Crz.prog 39 #[v,u,.agg #[.int .i64 (-1),.int .i64 (d : Int),.int .i64 (q : Int)]] w (MakePost w (makeM R P ⟨-1,d,q⟩)):=by
 rcases hS.turn with h | h
 ·exact make_put0 R P v u d q w hR hP hV hS h hm
 ·exact make_put1 R P v u d q w hR hP hV hS h hm
theorem Make_step (R : RulesM) (P : PosM) (v u : Value) (s d q : Nat) (w : World) (hR : RulesAt w v R) (hP : PosAt w u P) (hV : Valid R) (hS : Sound R P) (hm : CanStep R P s d q) :
  Calls Crz.prog 39 #[v,u,.agg #[.int .i64 (s : Int),.int .i64 (d : Int),.int .i64 (q : Int)]] w (MakePost w (makeM R P ⟨s,d,q⟩)):=by
 have hb : 0≤P.cells.getD d 0:=(hS.cells _ (by simp [hm.dst])).1
 by_cases hz : P.cells.getD d 0=0
 ·rcases hS.turn with h | h
  ·exact make_free0 R P v u s d q w hR hP hV hS h hm hz
  ·exact make_free1 R P v u s d q w hR hP hV hS h hm hz
 ·have hz' : 0 < P.cells.getD d 0:=by omega
  cases hk : R.keeps
  ·rcases hS.turn with h | h
   ·exact make_take0 R P v u s d q w hR hP hV hS h hm hz' hk
   ·exact make_take1 R P v u s d q w hR hP hV hS h hm hz' hk
  ·rcases hS.turn with h | h
   ·exact make_keep0 R P v u s d q w hR hP hV hS h hm hz' hk
   ·exact make_keep1 R P v u s d q w hR hP hV hS h hm hz' hk
theorem Make_any (R : RulesM) (P : PosM) (m : MoveM) (v u : Value) (w : World) (hR : RulesAt w v R) (hP : PosAt w u P) (hV : Valid R) (hS : Sound R P) (hm : m ∈ rawM R P) :
  Calls Crz.prog 39 #[v,u,.agg #[.int .i64 m.src,.int .i64 m.dst,.int .i64 m.piece]] w (MakePost w (makeM R P m)):=by
 rcases rawM_cases hV hS hm with ⟨d,q,rfl,hc,-⟩ | ⟨s,d,q,rfl,hc,-,-⟩
 ·exact Make_put R P v u d q w hR hP hV hS hc
 ·exact Make_step R P v u s d q w hR hP hV hS hc
end Go.Proofs.YtdoibgmmijhlfaaGreat
