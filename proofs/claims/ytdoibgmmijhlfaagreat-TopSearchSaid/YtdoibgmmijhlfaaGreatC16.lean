/- PlaceW2 PlaceCheck Other MovesW2p -/
import Derived.Test.YtdoibgmmijhlfaaGreatC06
import Derived.Test.YtdoibgmmijhlfaaGreatC07
import Derived.Test.YtdoibgmmijhlfaaGreatC08
import Derived.Test.YtdoibgmmijhlfaaGreatC10
import Derived.Test.YtdoibgmmijhlfaaGreatC11
import Derived.Test.YtdoibgmmijhlfaaGreatC12
import Derived.Test.YtdoibgmmijhlfaaGreatC13
import Derived.Test.YtdoibgmmijhlfaaGreatC14
import Derived.Test.YtdoibgmmijhlfaaGreatC15
namespace Go.Proofs.YtdoibgmmijhlfaaGreat
open Go.ChangeShapes Go.WideShapes Go.ChangeAt Go.RowKit Go.Shelf
set_option linter.unusedVariables false
theorem sound_any(R:RM)(P:PosM)(v u:Value)(w:World)(hR:RA w v R)(hP:PA w u P)(hs:okSide R.width R.height)(h6:R.pieces.length≤6) :
  Calls Crz.prog 79 #[v,u] w (ECode (soundE R P) w):=by
 unfold soundE
 cases hf:formB R P
 ·exact sound_form R P v u w hR hP hs hf
 ·rw [if_pos rfl]
  unfold rangeB
  cases hc:P.cells.all fun c=>inB c 0 (2 * (R.pieces.length:Int))
  ·exact sound_cells R P v u w hR hP hs h6 hf hc
  cases hk:(P.hand0++P.hand1).all fun c=>inB c 0 1000
  ·exact sound_hands R P v u w hR hP hs h6 hf hc hk
  by_cases h0:P.turn=0
  ·by_cases hq:P.quiet<0
   ·rw [if_neg (by simp [inB,h0];omega)]
    exact sound_low0 R P v u w hR hP hs h6 hf hc hk h0 hq
   ·by_cases hq2:P.quiet≤200
    ·rw [if_pos (by simp [inB,h0];omega)]
     exact sound_ok0 R P v u w hR hP hs h6 hf hc hk h0 hq hq2
    ·rw [if_neg (by simp [inB,h0];omega)]
     exact sound_high0 R P v u w hR hP hs h6 hf hc hk h0 hq (by omega)
  ·by_cases h1:P.turn=1
   ·by_cases hq:P.quiet<0
    ·rw [if_neg (by simp [inB,h1];omega)]
     exact sound_low1 R P v u w hR hP hs h6 hf hc hk h1 hq
    ·by_cases hq2:P.quiet≤200
     ·rw [if_pos (by simp [inB,h1];omega)]
      exact sound_ok1 R P v u w hR hP hs h6 hf hc hk h1 hq hq2
     ·rw [if_neg (by simp [inB,h1];omega)]
      exact sound_high1 R P v u w hR hP hs h6 hf hc hk h1 hq (by omega)
   ·rw [if_neg (by simp [h0,h1])]
    exact sound_turn R P v u w hR hP hs h6 hf hc hk h0 h1
set_option maxHeartbeats 1000000 in
set_option maxRecDepth 100000 in
theorem PCheck_any(R:RM)(P:PosM)(v u:Value)(w:World)(hR:RA w v R)(hP:PA w u P) :
  Calls Crz.prog 50 #[v,u] w (ECode (checkE R P) w):=by
 have HC:=hide (fun W (hW:Ext w W)=>Check_any v R W (hR.ext hW))
 have HS:=hide (fun W (hE:rulesE R=0) (hW:Ext w W)=>sound_any R P v u W (hR.ext hW) (hP.ext hW) (valid_of hE).side (valid_of hE).pieces6)
 obtain⟨pA,pc,sA,sc,eA,ec,rfl,-⟩:=hR
 obtain⟨cA,cc,aA,ac,bA,bc,rfl,-⟩:=hP
 have HE:Hid (checkE R P=if rulesE R=0 then soundE R P else rulesE R):=hide rfl
 generalize checkE R P=code at *
 by_cases h0:rulesE R=0
 ·have HSS:=hide (fun W (hW:Ext w W)=>HS.out W h0 hW)
  have HEE:Hid (code=soundE R P):=hide (by rw [HE.out,if_pos h0])
  rw [h0] at HC
  clear HE HS h0
  go_enter Crz.func50,Tryz.ntmps50
  go_wp2_with fail
  obtain⟨x1,k1,k2⟩:=blks2 w #[.string R.name,.int .i64 R.width,.int .i64 R.height,.slice pA R.pieces.length pc,.slice sA R.start.length sc,.bool R.falls,.bool R.keeps,.slice eA R.ends.length ec,.int .i64 R.blocked,.int .i64 R.quiet,.int .i64 R.rept] 26 #[.slice cA P.cells.length cc,.slice aA P.hand0.length ac,.slice bA P.hand1.length bc,.int .i64 P.turn,.int .i64 P.quiet] 29
  refine(HC.out _ x1).mono ?_
  rintro e w2 ⟨rfl,x2⟩
  have f1:=(k1.ext x2).cell
  have f2:=(k2.ext x2).cell
  have y2:=qT x1 x2
  clear x1 x2 k1 k2 HC
  go_wp2_with fail
  refine(HSS.out _ y2).mono ?_
  rintro e w3 ⟨rfl,x3⟩
  have y3:=qT y2 x3
  clear f1 f2
  go_wp2
  go_ret
  exact⟨by rw [HEE.out];rfl,y3⟩
 ·have HEE:Hid (code=rulesE R):=hide (by rw [HE.out,if_neg h0])
  have hn:(rulesE R != 0)=true:=by simpa using h0
  clear HE HS h0
  generalize rulesE R=E at *
  go_enter Crz.func50,Tryz.ntmps50
  go_wp2_with fail
  obtain⟨x1,k1,k2⟩:=blks2 w #[.string R.name,.int .i64 R.width,.int .i64 R.height,.slice pA R.pieces.length pc,.slice sA R.start.length sc,.bool R.falls,.bool R.keeps,.slice eA R.ends.length ec,.int .i64 R.blocked,.int .i64 R.quiet,.int .i64 R.rept] 26 #[.slice cA P.cells.length cc,.slice aA P.hand0.length ac,.slice bA P.hand1.length bc,.int .i64 P.turn,.int .i64 P.quiet] 29
  refine(HC.out _ x1).mono ?_
  rintro e w2 ⟨rfl,x2⟩
  go_wp2
  go_ret
  exact⟨by rw [HEE.out];rfl,qT x1 x2⟩
structure Sound(R:RM)(P:PosM):Prop where
 area:(P.cells.length:Int)=R.width * R.height
 len0:P.hand0.length=R.pieces.length
 len1:P.hand1.length=R.pieces.length
 cells:∀ c∈P.cells,0≤c∧c≤2 * (R.pieces.length:Int)
 held0:∀ c∈P.hand0,0≤c∧c≤1000
 held1:∀ c∈P.hand1,0≤c∧c≤1000
 turn:P.turn=0∨P.turn=1
 quiet:0≤P.quiet∧P.quiet≤200
theorem sound_of{R:RM}{P:PosM}(h:soundE R P=0):Sound R P:=by
 unfold soundE at h
 cases hf:formB R P
 ·rw [hf] at h;simp at h
 rw [hf,if_pos rfl] at h
 cases hr:rangeB R.pieces.length P
 ·rw [hr] at h;simp at h
 unfold formB at hf
 unfold rangeB at hr
 simp only [Bool.and_eq_true,decide_eq_true_eq,List.all_eq_true,Bool.or_eq_true,inB_iff,List.mem_append] at hf hr
 exact⟨hf.1,hf.2.1,hf.2.2,hr.1,fun c hc=>hr.2.1 c (.inl hc),fun c hc=>hr.2.1 c (.inr hc),hr.2.2.1,hr.2.2.2⟩
theorem of_sound{R:RM}{P:PosM}(h:Sound R P):soundE R P=0:=by
 have hf:formB R P=true:=by unfold formB;simp [h.area,h.len0,h.len1]
 have hr:rangeB R.pieces.length P=true:=by
  unfold rangeB
  simp only [Bool.and_eq_true,decide_eq_true_eq,List.all_eq_true,Bool.or_eq_true,inB_iff,List.mem_append]
  exact⟨h.cells,fun c hc=>hc.elim (h.held0 c) (h.held1 c),h.turn,h.quiet⟩
 unfold soundE
 rw [hf,hr]
 rfl
theorem check_iff{R:RM}{P:PosM}:checkE R P=0↔Valid R∧Sound R P:=by
 unfold checkE
 by_cases h:rulesE R=0
 ·rw [if_pos h]
  exact⟨fun k=>⟨valid_of h,sound_of k⟩,fun k=>of_sound k.2⟩
 ·rw [if_neg h]
  exact⟨fun k=>absurd k h,fun k=>absurd (of_valid k.1) h⟩
theorem wayB_bd{x:WayM}(h:wayB x=true):(-7≤x.dx∧x.dx≤7)∧(-7≤x.dy∧x.dy≤7)∧(1≤x.most∧x.most≤7)∧(x.take=0∨x.take=1∨x.take=2):=by
 unfold wayB at h
 simp only [Bool.and_eq_true,inB_iff] at h
 omega
theorem wayFrom_zero{W H turn take dx dy:Int}{cs:List Int}{x y:Int}:wayFrom W H turn take dx dy cs 0 x y=[]:=rfl
theorem wayFrom_out{W H turn take dx dy:Int}{cs:List Int}{n:Nat}{x y:Int}(h:x+dx<0∨W≤x+dx∨y+dy<0∨H≤y+dy):wayFrom W H turn take dx dy cs n x y=[]:=by
 cases n with
 | zero=>rfl
 | succ n=>unfold wayFrom;rw [if_pos h]
theorem wayFrom_in{W H turn take dx dy:Int}{cs:List Int}{n j:Nat}{x y:Int}(h:¬ (x+dx<0∨W≤x+dx∨y+dy<0∨H≤y+dy))(e:(y+dy) * W+(x+dx)=(j:Int)) :
  wayFrom W H turn take dx dy cs (n+1) x y=(if endsB turn take (cs.getD j 0) then [(j:Int)] else [])++(if cs.getD j 0=0 then wayFrom W H turn take dx dy cs n (x+dx) (y+dy) else []):=by
 show (if x+dx<0∨W≤x+dx∨y+dy<0∨H≤y+dy then [] else (if endsB turn take (cs.getD ((y+dy) * W+(x+dx)).toNat 0) then [(y+dy) * W+(x+dx)] else []) ++
   (if cs.getD ((y+dy) * W+(x+dx)).toNat 0=0 then wayFrom W H turn take dx dy cs n (x+dx) (y+dy) else []))=_
 rw [if_neg h,e,Int.toNat_natCast]
theorem drewN_ext(w:World)(n:Nat):Ext w (w.drewN n):=qD (Below.refl _ _) n
theorem OwnI.base{w0 w1 w:World}{v:Value}{xs:List Int}(h:OwnI w1 w v xs)(he:Ext w0 w1):OwnI w0 w v xs:=by
 obtain⟨A,c,e,h⟩:=h
 exact⟨A,c,e,own_mono h he.size⟩
theorem OwnM.base{w0 w1 w:World}{v:Value}{xs:List MM}(h:OwnM w1 w v xs)(he:Ext w0 w1):OwnM w0 w v xs:=by
 obtain⟨A,c,e,h⟩:=h
 exact⟨A,c,e,own_mono h he.size⟩
def WayPost(w:World)(T:List Int)(e:Ending)(w':World):Prop:=∃ v',e=.returned v'∧OwnI w w' v' T∧Ext w w'
end Go.Proofs.YtdoibgmmijhlfaaGreat
