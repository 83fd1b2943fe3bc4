/- Scored PerftH PerftQ -/
import Derived.Test.YtdoibgmmijhlfaaGreatA39
import Derived.Deep.AppendLies
import Derived.Deep.DeepCutAuto
import Derived.Test.YtdoibgmmijhlfaaGreatA38
namespace Go.Proofs.YtdoibgmmijhlfaaGreat
open Go.ChangeShapes Go.WideShapes Go.ChangeAt Go.RowKit Go.Shelf
set_option linter.unusedVariables false
set_option linter.unusedSimpArgs false
theorem near_score : scoreM threeR nearP 1=999∧perftE threeR nearP 1=0∧bestY threeR nearP 2=(⟨-1,2,0⟩,999)∧bestE threeR nearP 2=0:=by decide +kernel
theorem fine_ok2 {w : World} {g : Nat} (h : Blk w g 32 #[.int .i64 0,.int .i64 0]) : Calls Crz.prog 17 #[.slice (some ⟨g,0,none⟩) 2 2] w fun e w' => e=.returned (.bool true)∧Ext w w' :=
 fine_ext (fine_any (some ⟨g,0,none⟩) 2 2 [0,0] w rfl (by omega) (blk_ints h))
set_option maxHeartbeats 4000000 in
set_option maxRecDepth 100000 in
theorem scored_any (w : World) : Calls Crz.prog 10 #[] w fun e w' => e=.returned (.bool true)∧Ext w w':=by
 have HA:=hide (fun W (v1 v2 : Value) (h1 : RulesAt W v1 threeR) (h2 : PosAt W v2 nearP) => MScore_any threeR nearP v1 v2 1 W h1 h2)
 rw [near_score.1,near_score.2.1] at HA
 have HB:=hide (fun W (v1 v2 : Value) (h1 : RulesAt W v1 threeR) (h2 : PosAt W v2 nearP) => MBest_any threeR nearP v1 v2 2 W h1 h2)
 rw [near_score.2.2.1,near_score.2.2.2] at HB
 go_enter Crz.func10,Tryz.ntmps10
 go_wp2_with fail
 refine (three_any _).mono ?_
 rintro e w2 ⟨v1,rfl,h1,x⟩
 have X:=x
 clear x
 go_wp2_with fail
 refine (near_any _).mono ?_
 rintro e w3 ⟨v2,rfl,h2,x⟩
 replace h1:=h1.ext x
 replace X:=ext_trans X x
 clear x
 replace h2:=h2.at_
 go_wp2_with fail
 refine (HA.out _ _ _ h1 h2).mono ?_
 rintro e w4 ⟨rfl,x⟩
 replace h1:=h1.ext x
 replace h2:=h2.ext x
 replace X:=ext_trans X x
 clear x
 clear h1 h2
 go_wp2_with fail
 refine (three_any _).mono ?_
 rintro e w5 ⟨v3,rfl,h3,x⟩
 replace X:=ext_trans X x
 clear x
 go_wp2_with fail
 refine (near_any _).mono ?_
 rintro e w6 ⟨v4,rfl,h4,x⟩
 replace h3:=h3.ext x
 replace X:=ext_trans X x
 clear x
 replace h4:=h4.at_
 go_wp2_with fail
 refine (HB.out _ _ _ h3 h4).mono ?_
 rintro e w7 ⟨rfl,x⟩
 replace h3:=h3.ext x
 replace h4:=h4.ext x
 replace X:=ext_trans X x
 clear x
 clear h3 h4
 obtain ⟨xa,kM⟩:=blks1 w7 #[.int .i64 (-1),.int .i64 2,.int .i64 0] 31
 replace X:=ext_trans X xa
 clear xa
 go_upto_region 3 with fail
 generalize (w7.alloc (.cells #[.int .i64 (-1),.int .i64 2,.int .i64 0] 31))=w8 at *
 generalize w7.heap.size=BM at *
 have KM:=hide kM
 have XB:=hide X
 clear kM X HA HB
 have keepK:=hide (fun W (h : Ext w8 W) => (show (fun W => W.cell? ⟨BM,0,none⟩=some (.int .i64 (-1))∧W.cell? ⟨BM,1,none⟩=some (.int .i64 2)∧W.cell? ⟨BM,2,none⟩=some (.int .i64 0)∧Ext w8 W) W from ⟨(KM.out.ext h).cell 0,(KM.out.ext h).cell 1,(KM.out.ext h).cell 2,h⟩))
 have yy : Ext w8 w8.drew:=Below.drew (Below.refl _ _)
 refine region_K (fun W => W.cell? ⟨BM,0,none⟩=some (.int .i64 (-1))∧W.cell? ⟨BM,1,none⟩=some (.int .i64 2)∧W.cell? ⟨BM,2,none⟩=some (.int .i64 0)∧Ext w8 W) (fun _ => True) [] (by kernel_rfl) ?_
 have hT0:=keepK.out _ yy
 refine tk 0 hT0 (fun _=>trivial) ?_
 refine tk 1 hT0 (fun _=>trivial) ?_
 refine anyK_on1 2 (by kernel_rfl) ?_
 refine tw 2 (fun K hK=>?_)
 go_simp
 have HKE:=hide (Blk.new w8.drew 32 #[.int .i64 0,.int .i64 0])
 replace yy:=ext_alloc yy (.cells #[.int .i64 0,.int .i64 0] 32)
 have hT1:=keepK.out _ yy
 refine hK.out _ _ hT1 (fun _ => trivial) ?_
 clear hK K
 try simp only [Act.put,List.setIfInBounds_toArray,List.set_cons_zero,List.set_cons_succ]
 refine anyK_on1 3 (by kernel_rfl) ?_
 refine tw 3 (fun K hK=>?_)
 go_simp
 refine (fine_ok2 HKE.out).mono ?_
 rintro e we ⟨rfl,xx⟩
 try go_wp2_with fail
 replace yy:=ext_trans yy xx
 have hT2:=keepK.out _ yy
 refine hK.out _ _ hT2 (fun _ => trivial) ?_
 clear hK K
 try simp only [Act.put,List.setIfInBounds_toArray,List.set_cons_zero,List.set_cons_succ]
 refine tk 4 hT2 (fun _=>trivial) ?_
 refine tk 5 hT2 (fun _=>trivial) ?_
 refine tk 6 hT2 (fun _=>trivial) ?_
 refine tk 7 hT2 (fun _=>trivial) ?_
 refine tk 8 hT2 (fun _=>trivial) ?_
 refine tl 9 hT2 (fun _=>trivial) (v:=?_) (fun W hW=>?_) ?_
 rotate_left
 ·obtain ⟨z0,z1,z2,z3⟩:=hW;go_simp;first|done|with_reducible rfl
 refine anyK_on1 10 (by kernel_rfl) ?_
 refine tw 10 (fun K hK=>?_)
 go_simp
 refine (put_any 2 _).mono ?_
 rintro e wp ⟨rfl,xx⟩
 try go_wp2_with fail
 replace yy:=ext_trans yy xx
 have hT3:=keepK.out _ yy
 refine hK.out _ _ hT3 (fun _ => trivial) ?_
 clear hK K
 try simp only [Act.put,List.setIfInBounds_toArray,List.set_cons_zero,List.set_cons_succ]
 refine tk 11 hT3 (fun _=>trivial) ?_
 refine tk 12 hT3 (fun _=>trivial) ?_
 refine tk 13 hT3 (fun _=>trivial) ?_
 refine tk 14 hT3 (fun _=>trivial) ?_
 refine tk 15 hT3 (fun _=>trivial) ?_
 refine tk 16 hT3 (fun _=>trivial) ?_
 refine tk 17 hT3 (fun _=>trivial) ?_
 refine anyK_done (by kernel_rfl) ?_ _
 clear keepK hT0 hT1 hT2 hT3
 go_wp2
 go_ret
 exact ⟨rfl,ext_trans XB.out yy⟩
def heavyB (R : RulesM) (P : PosM) (D : Int) : Bool:=perftE R P D == 17 || decide (3000 < perftN R P D) || decide ((20 : Int) < (P.cells.length : Int))
set_option maxHeartbeats 4000000 in
set_option maxRecDepth 100000 in
theorem heavy_any (R : RulesM) (P : PosM) (v u : Value) (D : Int) (w : World) (hR : RulesAt w v R) (hP : PosAt w u P) :
  Calls Crz.prog 14 #[v,u,.int .i64 D] w fun e w' => e=.returned (.bool (heavyB R P D))∧Ext w w':=by
 have HV:=hide (show heavyB R P D=(perftE R P D == 17 || decide (3000 < perftN R P D) || decide ((20 : Int) < (P.cells.length : Int))) from rfl)
 have HT:=hide (fun W (v1 v2 : Value) (h1 : RulesAt W v1 R) (h2 : PosAt W v2 P) => PfTree_any R P v1 v2 D W h1 h2)
 have hR0:=hR
 have hP0:=hP
 obtain ⟨pA,pc,sA,sc,eA,ec,rfl,-⟩:=hR0
 obtain ⟨cA,cc,aA,ac,bA,bc,rfl,-⟩:=hP0
 generalize perftE R P D=E at *
 generalize perftN R P D=N at *
 generalize heavyB R P D=B at *
 go_enter Crz.func14,Tryz.ntmps14
 go_wp2_with fail
 obtain ⟨xa,kR,kP⟩:=blks2 w #[.string R.name,.int .i64 R.width,.int .i64 R.height,.slice pA R.pieces.length pc,.slice sA R.start.length sc,.bool R.falls,.bool R.keeps,.slice eA R.ends.length ec,.int .i64 R.blocked,.int .i64 R.quiet,.int .i64 R.rept] 26 #[.slice cA P.cells.length cc,.slice aA P.hand0.length ac,.slice bA P.hand1.length bc,.int .i64 P.turn,.int .i64 P.quiet] 29
 replace hR:=hR.ext xa
 replace hP:=hP.ext xa
 have X:=xa
 clear xa
 generalize ((w.alloc (.cells #[.string R.name,.int .i64 R.width,.int .i64 R.height,.slice pA R.pieces.length pc,.slice sA R.start.length sc,.bool R.falls,.bool R.keeps,.slice eA R.ends.length ec,.int .i64 R.blocked,.int .i64 R.quiet,.int .i64 R.rept] 26)).alloc (.cells #[.slice cA P.cells.length cc,.slice aA P.hand0.length ac,.slice bA P.hand1.length bc,.int .i64 P.turn,.int .i64 P.quiet] 29))=w2 at *
 generalize w.heap.size + 1=BP at *
 generalize w.heap.size=BR at *
 have fR:=kR.cell
 have fP:=kP.cell
 go_wp2_with fail
 refine (HT.out _ _ _ hR hP).mono ?_
 rintro e w3 ⟨rfl,x⟩
 replace hR:=hR.ext x
 replace hP:=hP.ext x
 replace kR:=kR.ext x
 replace kP:=kP.ext x
 replace X:=ext_trans X x
 replace fR:=kR.cell
 replace fP:=kP.cell
 clear x
 cases t0 : (E == 17)
 ·cases t1 : decide (3000 < N)
  ·cases t2 : decide ((20 : Int) < (P.cells.length : Int))
   ·go_wp2
    go_ret
    exact ⟨by rw [HV.out,t0,t1,t2]; rfl,X⟩
   ·go_wp2
    go_ret
    exact ⟨by rw [HV.out,t0,t1,t2]; rfl,X⟩
  ·go_wp2
   go_ret
   exact ⟨by rw [HV.out,t0,t1]; rfl,X⟩
 ·go_wp2
  go_ret
  exact ⟨by rw [HV.out,t0]; rfl,X⟩
theorem near_count : perftE threeR nearP 2=0∧perftL threeR nearP 2=16∧perftN threeR nearP 2=22:=by decide +kernel
set_option maxHeartbeats 4000000 in
set_option maxRecDepth 100000 in
theorem counted_any (w : World) : Calls Crz.prog 11 #[] w fun e w' => e=.returned (.bool true)∧Ext w w':=by
 have HA:=hide (fun W (v1 v2 : Value) (h1 : RulesAt W v1 threeR) (h2 : PosAt W v2 nearP) => PfCount_any threeR nearP v1 v2 2 W h1 h2)
 rw [near_count.1,near_count.2.1] at HA
 have HB:=hide (fun W (v1 v2 : Value) (h1 : RulesAt W v1 threeR) (h2 : PosAt W v2 nearP) => PfTree_any threeR nearP v1 v2 2 W h1 h2)
 rw [near_count.1,near_count.2.2] at HB
 go_enter Crz.func11,Tryz.ntmps11
 go_wp2_with fail
 refine (three_any _).mono ?_
 rintro e w2 ⟨v1,rfl,h1,x⟩
 have X:=x
 clear x
 go_wp2_with fail
 refine (near_any _).mono ?_
 rintro e w3 ⟨v2,rfl,h2,x⟩
 replace h1:=h1.ext x
 replace X:=ext_trans X x
 clear x
 replace h2:=h2.at_
 go_wp2_with fail
 refine (HA.out _ _ _ h1 h2).mono ?_
 rintro e w4 ⟨rfl,x⟩
 replace h1:=h1.ext x
 replace h2:=h2.ext x
 replace X:=ext_trans X x
 clear x
 clear h1 h2
 go_wp2_with fail
 refine (three_any _).mono ?_
 rintro e w5 ⟨v3,rfl,h3,x⟩
 replace X:=ext_trans X x
 clear x
 go_wp2_with fail
 refine (near_any _).mono ?_
 rintro e w6 ⟨v4,rfl,h4,x⟩
 replace h3:=h3.ext x
 replace X:=ext_trans X x
 clear x
 replace h4:=h4.at_
 go_wp2_with fail
 refine (HB.out _ _ _ h3 h4).mono ?_
 rintro e w7 ⟨rfl,x⟩
 replace h3:=h3.ext x
 replace h4:=h4.ext x
 replace X:=ext_trans X x
 clear x
 clear h3 h4
 obtain ⟨xa,kE⟩:=blks1 w7 #[.int .i64 0,.int .i64 0] 32
 replace X:=ext_trans X xa
 clear xa
 go_wp2_with fail
 generalize (w7.alloc (.cells #[.int .i64 0,.int .i64 0] 32))=w8 at *
 generalize w7.heap.size=BE at *
 refine (fine_ext (fine_any (some ⟨BE,0,none⟩) 2 2 [0,0] _ rfl (by omega) (blk_ints kE))).mono ?_
 rintro e w9 ⟨rfl,x⟩
 replace kE:=kE.ext x
 replace X:=ext_trans X x
 clear x
 rw [show allZero [0,0]=true from rfl]
 clear kE
 go_wp2
 go_ret
 exact ⟨rfl,X⟩
end Go.Proofs.YtdoibgmmijhlfaaGreat
