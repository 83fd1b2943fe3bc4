/- MovesW2 -/
import Derived.Test.YtdoibgmmijhlfaaGreatC18
import Derived.Test.YtdoibgmmijhlfaaGreatC19
namespace Go.Proofs.YtdoibgmmijhlfaaGreat
open Go.ChangeShapes Go.WideShapes Go.ChangeAt Go.RowKit Go.Shelf
set_option linter.unusedVariables false
theorem way_any(R:RM)(P:PosM)(v u:Value)(s:Nat)(x:WayM)(w:World)(hR:RA w v R)(hP:PA w u P)(hV:Valid R)(hS:Sound R P)(hs:s<P.cells.length)(hx:wayB x=true) :
  Calls Crz.prog 59 #[v,u,.int .i64 (s:Int),.agg #[.int .i64 x.dx,.int .i64 x.dy,.int .i64 x.most,.int .i64 x.take]] w (WayPost w (wayM R P s x)):=by
 obtain⟨pA,pc,sA,sc,eA,ec,rfl,-⟩:=hR
 obtain⟨cA,cc,aA,ac,bA,bc,rfl,hc,-⟩:=hP
 obtain⟨b1,b2,b3,b4⟩:=wayB_bd hx
 unfold wayM
 have h6:=hV.pieces6
 have hb:∀ c∈P.cells,0≤c∧c≤12:=fun c h=>⟨(hS.cells c h).1,by have:=(hS.cells c h).2;omega⟩
 rcases hS.turn with h | h
 ·rw [h,if_neg (by omega)]
  exact way_core0 _ _ _ _ _ _ _ _ _ _ _ _ _ _ _ _ _ _ _ _ _ _ _ _ _ _ _ _ _ _ _ s w hV.side b1 b2 b3 b4 hS.area hs hb hc
 ·rw [h,if_pos rfl]
  exact way_core1 _ _ _ _ _ _ _ _ _ _ _ _ _ _ _ _ _ _ _ _ _ _ _ _ _ _ _ _ _ _ _ s w hV.side b1 b2 b3 b4 hS.area hs hb hc
end Go.Proofs.YtdoibgmmijhlfaaGreat
