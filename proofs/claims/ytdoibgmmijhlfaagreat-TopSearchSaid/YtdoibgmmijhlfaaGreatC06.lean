/- PlaceS1 -/
import Derived.Test.YtdoibgmmijhlfaaGreatC05
namespace Go.Proofs.YtdoibgmmijhlfaaGreat
open Go.ChangeShapes Go.WideShapes Go.ChangeAt Go.RowKit Go.Shelf
set_option linter.unusedVariables false
attribute [local go_sem] undef
attribute [local go_sem ↓] Go.wp_at_zero Go.wp_at_succ
set_option maxHeartbeats 4000000 in
set_option maxRecDepth 100000 in
theorem sound_cells(R:RM)(P:PosM)(v u:Value)(w:World)(hR:RA w v R)(hP:PA w u P)(hs:okSide R.width R.height)(h6:R.pieces.length≤6)(h:formB R P=true)(hc:(P.cells.all fun c=>inB c 0 (2 * (R.pieces.length:Int)))=false) :
  Calls Crz.prog 79 #[v,u] w (ECode 4 w):=by
 obtain⟨pA,pc,sA,sc,eA,ec,rfl,-⟩:=hR
 obtain⟨cA,cc,aA,ac,bA,bc,rfl,hcA,haA,hbA,-⟩:=hP
 have har:=area_bd _ _ hs
 have h':(P.cells.length:Int)=R.width * R.height∧P.hand0.length=R.pieces.length∧P.hand1.length=R.pieces.length:=by
  unfold formB at h
  simpa using h
 obtain⟨h1,h2,h3⟩:=h'
 have t1:(P.cells.length:Int)≤R.width * R.height:=by omega
 have t1':R.width * R.height≤P.cells.length:=by omega
 have hc64:P.cells.length≤64:=by omega
 have ha6:P.hand0.length≤6:=by omega
 have hb6:P.hand1.length≤6:=by omega
 obtain⟨ha1,ha2⟩:=har
 clear h h1
 have HC:=hide (fun b1 b2 W (hW:Ext w W) k1 k2=>hasOut cA P.cells.length cc P.cells 0 (2 * (R.pieces.length:Int)) b1 b2 W rfl (by omega) (hcA.ext hW) k1 k2)
 have HH:=hide (fun A n c b1 b2 W (hn:(P.hand0++P.hand1).length=n) (hz:IntsAt W A (P.hand0++P.hand1)) k1 k2=>hasOut A n c (P.hand0++P.hand1) 0 1000 b1 b2 W hn (by rw [List.length_append] at hn;omega) hz k1 k2)
 have HCC:=hide (fun L W h5 h6 h7 (hW:Ext w W)=>Concat_two L aA bA R.pieces.length R.pieces.length ac bc 2 P.hand0 P.hand1 W h2 h3 (by omega) (by omega) h5 h6 h7 (haA.ext hW) (hbA.ext hW))
 have HLEN:Hid ((P.hand0++P.hand1).length=R.pieces.length+R.pieces.length):=hide (by rw [List.length_append,h2,h3])
 rw [h2,h3]
 clear h2 h3 ha6 hb6 hcA haA hbA
 rw [hc] at HC
 go_enter Crz.func79,Tryz.ntmps79
 go_wp2_with fail
 obtain⟨x1,-,kp,k3⟩:=blks3 w #[.string R.name,.int .i64 R.width,.int .i64 R.height,.slice pA R.pieces.length pc,.slice sA R.start.length sc,.bool R.falls,.bool R.keeps,.slice eA R.ends.length ec,.int .i64 R.blocked,.int .i64 R.quiet,.int .i64 R.rept] 26 #[.slice cA P.cells.length cc,.slice aA R.pieces.length ac,.slice bA R.pieces.length bc,.int .i64 P.turn,.int .i64 P.quiet] 29 #[.slice aA R.pieces.length ac,.slice bA R.pieces.length bc] 23
 refine(HCC.out ⟨w.heap.size+1+1,0,none⟩ _ rfl (k3.cell 0) (k3.cell 1) x1).mono ?_
 rintro e w2 ⟨A2,c2,rfl,hi2,x2⟩
 have x2':Ext w w2.drew:=Below.drew (qT x1 x2)
 have kp2:=(kp.ext x2).drew
 clear HCC x1 x2 kp k3
 generalize w.heap.size+1+1=B3 at *
 generalize w.heap.size+1=B2 at *
 have HI2:Hid (IntsAt w2.drew A2 (P.hand0++P.hand1)):=hide hi2
 clear hi2
 have hwr:IntKind.i64.wrap (2 * (R.pieces.length:Int))=2 * (R.pieces.length:Int):=by rw [IntKind.wrap_i64];omega
 have f0:w2.drew.cell? ⟨B2,0,none⟩=some (.slice cA P.cells.length cc):=kp2.cell 0
 have f3:w2.drew.cell? ⟨B2,3,none⟩=some (.int .i64 P.turn):=kp2.cell 3
 have f4:w2.drew.cell? ⟨B2,4,none⟩=some (.int .i64 P.quiet):=kp2.cell 4
 clear kp2
 go_wp2
 first
 | go_region_with (first
   | (go_at_call 116;refine(out_any _ _ _).mono ?_;rintro e w3 ⟨b1,b2,rfl,q1,q2,x3⟩;have g3:=Ext.cell x3 f3;have g4:=Ext.cell x3 f4;have g0:=Ext.cell x3 f0;have y3:=qT x2' x3)
   | (go_at_call 85;refine(HC.out b1 b2 _ y3 q1 q2).mono ?_;rintro e w4 ⟨rfl,x4⟩;have y4:=qT y3 x4))
 | fail
 all_goals go_wp2_with fail
 all_goals go_ret
 all_goals exact⟨rfl,by assumption⟩
end Go.Proofs.YtdoibgmmijhlfaaGreat
