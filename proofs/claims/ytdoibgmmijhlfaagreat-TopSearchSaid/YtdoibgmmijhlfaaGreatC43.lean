/- LTopSearch -/
import Derived.Test.YtdoibgmmijhlfaaGreatC39
import Derived.Test.YtdoibgmmijhlfaaGreatC40
import Derived.Test.YtdoibgmmijhlfaaGreatC42
namespace Go.Proofs.YtdoibgmmijhlfaaGreat
open Go.ChangeShapes Go.WideShapes Go.ChangeAt Go.RowKit Go.Shelf
set_option linter.unusedVariables false
set_option linter.unusedSimpArgs false
theorem near_full:winS threeR nearP 1 (-1000) 1000=999∧winN threeR nearP 1 (-1000) 1000=6∧winE threeR nearP 1 (-1000) 1000=0:=by decide +kernel
theorem near_deep:deepX threeR nearP 1 50=((⟨-1,2,0⟩,999),1,6)∧deepE threeR nearP 1 50=0:=by decide +kernel
theorem near_one:ofM threeR (1:Int).toNat nearP=999:=by
 have h:=near_score.1
 rw [show scoreM threeR nearP 1=ofM threeR (1:Int).toNat nearP from if_pos near_score.2.1] at h
 exact h
theorem bheavy_no{R:RM}{P:PosM}{D:Int}(h:bheavyB R P D=false):perftN R P D≤2000:=by
 unfold bheavyB at h
 simp only [Bool.or_eq_false_iff,decide_eq_false_iff_not] at h
 omega
theorem deep_full{R:RM}{P:PosM}{D:Int}(hp:perftE R P D=0)(hd1:1≤D)(hr:rM R P=0)(hb:perftN R P D≤2000):deepX R P D 2000=(firstM R (D.toNat-1) P,D,perftN R P D)∧deepE R P D 2000=0:=by
 obtain⟨hV,hS,h0,h12,ht⟩:=perft_zero hp
 have hc:checkE R P=0:=check_iff.2 ⟨hV,hS⟩
 have hn:perftN R P D=treeM R D.toNat P:=(perftE_ok hc (by omega) (by omega)).2.1
 obtain⟨s1,s2,s3,s4⟩:=runN_spec (okD R P 2000) D.toNat 0
 have hN:deepN R P D 2000=D.toNat:=by
  show runN (okD R P 2000) D.toNat 0=D.toNat
  rcases s4 with s4 | s4
  ·omega
  ·rcases Nat.lt_or_ge (runN (okD R P 2000) D.toNat 0) D.toNat with hlt | hge
   ·exfalso
    generalize runN (okD R P 2000) D.toNat 0=r at *
    have hm:=tree_mono R P (show r+1≤D.toNat by omega)
    have e:=perftE_ok (R:=R) (P:=P) (D:=((r+1:Nat):Int)) hc (by omega) (by simp only [Int.toNat_natCast];omega)
    unfold okD at s4
    rw [e.1,e.2.1] at s4
    simp only [Int.toNat_natCast,beq_self_eq_true,Bool.true_and,decide_eq_false_iff_not] at s4
    omega
   ·omega
 have h6:=deep6 (R:=R) (P:=P) (D:=D) (b:=2000) hc (by omega) (by omega) hr (by rw [hN];omega)
 rw [hN] at h6
 rw [show ((D.toNat:Nat):Int)=D by omega] at h6
 exact⟨h6.2,h6.1⟩
set_option maxHeartbeats 4000000 in
set_option maxRecDepth 100000 in
theorem topSearch_heavy(R:RM)(P:PosM)(v u:Value)(D s b:Int)(w:World)(hR:RA w v R)(hP:PA w u P)(K:Int)(hK:(wrap64 (b.tmod 8+8)).tmod 8=K)(k0:0≤K)(k1:K<8)(j:Nat)(hj:(wrap64 (s.tmod 50+50)).tmod 50=(j:Int))(j1:j<50)(hh:bheavyB R P D=true) :
  Calls Crz.prog 5 #[v,u,.int .i64 D,.int .i64 s,.int .i64 b] w LawR:=by
 have HHV:=hide (fun W (v1 v2:Value) (h1:RA W v1 R) (h2:PA W v2 P)=>bheavy_any R P v1 v2 D W h1 h2)
 rw [hh] at HHV
 clear hh
 have HWN:=hide (fun W (v1 v2:Value) (h1:RA W v1 threeR) (h2:PA W v2 nearP)=>WScore_any threeR nearP v1 v2 1 (-1000) 1000 W h1 h2)
 rw [near_full.1,near_full.2.1,near_full.2.2] at HWN
 have HDN:=hide (fun W (v1 v2:Value) (h1:RA W v1 threeR) (h2:PA W v2 nearP)=>Deepen_run threeR nearP v1 v2 1 50 W h1 h2 (check_iff.2 ⟨valid_three,sound_near⟩) (by omega) (by omega) (crowd_zero (near_crowd (W:=2) (.inl rfl) (by omega) (by omega))).2.2)
 rw [near_deep.1,near_deep.2] at HDN
 have HBS:=hide (fun W (v1 v2:Value) (h1:RA W v1 threeR) (h2:PA W v2 nearP)=>bestS12 W v1 v2 h1 h2)
 have HN3:=hide (fun W (v:Value) (h:RA W v threeR)=>sNew_yes threeR v 3 W h valid_three (by omega) (by omega))
 unfold SNewPost at HN3
 rw [show ((3:Nat):Int)=3 from rfl] at HN3
 have hwK:IntKind.i64.wrap (K+1)=K+1:=by rw [IntKind.wrap_i64];omega
 have hwj:IntKind.i64.wrap ((j:Int)+1)=(j:Int)+1:=by rw [IntKind.wrap_i64];omega
 have j0:(0:Int)≤(j:Int):=by omega
 have j2:(j:Int)<50:=by omega
 have hR0:=hR
 have hP0:=hP
 obtain⟨pA,pc,sA,sc,eA,ec,rfl,-⟩:=hR0
 obtain⟨cA,cc,aA,ac,bA,bc,rfl,-⟩:=hP0
 go_enter Crz.func5,Tryz.ntmps5
 go_wp2_with fail
 obtain⟨xa,kR,kP⟩:=blks2 w #[.string R.name,.int .i64 R.width,.int .i64 R.height,.slice pA R.pieces.length pc,.slice sA R.start.length sc,.bool R.falls,.bool R.keeps,.slice eA R.ends.length ec,.int .i64 R.blocked,.int .i64 R.quiet,.int .i64 R.rept] 26 #[.slice cA P.cells.length cc,.slice aA P.hand0.length ac,.slice bA P.hand1.length bc,.int .i64 P.turn,.int .i64 P.quiet] 29
 replace hR:=hR.ext xa
 replace hP:=hP.ext xa
 have X:=xa
 clear xa
 generalize ((w.alloc _).alloc _)=w2 at *
 generalize w.heap.size+1=BP at *
 generalize w.heap.size=BR at *
 refine(bthree_any _).mono ?_
 rintro e w3 ⟨v1,rfl,h1,x⟩
 replace hR:=hR.ext x
 replace hP:=hP.ext x
 replace kR:=kR.ext x
 replace kP:=kP.ext x
 replace X:=qT X x
 clear x
 go_wp2_with fail
 refine(bnear_any _).mono ?_
 rintro e w4 ⟨v2,rfl,h2,x⟩
 replace hR:=hR.ext x
 replace hP:=hP.ext x
 replace kR:=kR.ext x
 replace kP:=kP.ext x
 replace h1:=h1.ext x
 replace X:=qT X x
 clear x
 replace h2:=h2.at_
 go_wp2_with fail
 refine(HWN.out _ _ _ h1 h2).mono ?_
 rintro e w5 ⟨rfl,x⟩
 replace hR:=hR.ext x
 replace hP:=hP.ext x
 replace kR:=kR.ext x
 replace kP:=kP.ext x
 replace h1:=h1.ext x
 replace h2:=h2.ext x
 replace X:=qT X x
 clear x
 clear h1 h2
 clear HWN
 go_wp2_with fail
 refine(bscored_any _).mono ?_
 rintro e w6 ⟨rfl,x⟩
 replace hR:=hR.ext x
 replace hP:=hP.ext x
 replace kR:=kR.ext x
 replace kP:=kP.ext x
 replace X:=qT X x
 clear x
 go_wp2_with fail
 refine(bthree_any _).mono ?_
 rintro e w7 ⟨v3,rfl,h3,x⟩
 replace hR:=hR.ext x
 replace hP:=hP.ext x
 replace kR:=kR.ext x
 replace kP:=kP.ext x
 replace X:=qT X x
 clear x
 go_wp2_with fail
 refine(bnear_any _).mono ?_
 rintro e w8 ⟨v4,rfl,h4,x⟩
 replace hR:=hR.ext x
 replace hP:=hP.ext x
 replace kR:=kR.ext x
 replace kP:=kP.ext x
 replace h3:=h3.ext x
 replace X:=qT X x
 clear x
 replace h4:=h4.at_
 go_wp2_with fail
 refine(HDN.out _ _ _ h3 h4).mono ?_
 rintro e w9 ⟨rfl,x⟩
 replace hR:=hR.ext x
 replace hP:=hP.ext x
 replace kR:=kR.ext x
 replace kP:=kP.ext x
 replace h3:=h3.ext x
 replace h4:=h4.ext x
 replace X:=qT X x
 clear x
 clear h3 h4
 clear HDN
 obtain⟨xa,kX⟩:=blks1 w9 #[.int .i64 (-1),.int .i64 2,.int .i64 0,.int .i64 999,.int .i64 1,.int .i64 6] 62
 replace hR:=hR.ext xa
 replace hP:=hP.ext xa
 replace kR:=kR.ext xa
 replace kP:=kP.ext xa
 replace X:=qT X xa
 clear xa
 go_upto_region 5 with fail
 generalize (w9.alloc _)=w10 at *
 generalize w9.heap.size=BX at *
 have fX:=kX.cell
 go_wp2_with fail
 clear fX
 clear kX
 refine(bthree_any _).mono ?_
 rintro e w11 ⟨v5,rfl,h5,x⟩
 replace hR:=hR.ext x
 replace hP:=hP.ext x
 replace kR:=kR.ext x
 replace kP:=kP.ext x
 replace X:=qT X x
 clear x
 go_wp2_with fail
 refine(bnear_any _).mono ?_
 rintro e w12 ⟨v6,rfl,h6,x⟩
 replace hR:=hR.ext x
 replace hP:=hP.ext x
 replace kR:=kR.ext x
 replace kP:=kP.ext x
 replace h5:=h5.ext x
 replace X:=qT X x
 clear x
 replace h6:=h6.at_
 go_wp2_with fail
 refine(HBS.out _ _ _ h5 h6).mono ?_
 rintro e w13 (⟨rfl,x⟩ | ⟨pv,rfl,hs⟩)
 rotate_left
 ·have HS:=hide hs
  clear hs
  go_wp2
  exact⟨rfl,.inr HS.out⟩
 replace hR:=hR.ext x
 replace hP:=hP.ext x
 replace kR:=kR.ext x
 replace kP:=kP.ext x
 replace h5:=h5.ext x
 replace h6:=h6.ext x
 replace X:=qT X x
 clear x
 clear h5 h6
 clear HBS
 obtain⟨xa,kY⟩:=blks1 w13 #[.int .i64 (-1),.int .i64 2,.int .i64 0] 31
 replace hR:=hR.ext xa
 replace hP:=hP.ext xa
 replace kR:=kR.ext xa
 replace kP:=kP.ext xa
 replace X:=qT X xa
 clear xa
 go_wp2_with fail
 generalize (w13.alloc _)=w14 at *
 generalize w13.heap.size=BY at *
 clear kY
 refine(bthree_any _).mono ?_
 rintro e w15 ⟨v7,rfl,h7,x⟩
 replace hR:=hR.ext x
 replace hP:=hP.ext x
 replace kR:=kR.ext x
 replace kP:=kP.ext x
 replace X:=qT X x
 clear x
 go_wp2_with fail
 have HS0:=hide (fun W (h:Ext w15 W)=>And.intro (hR.ext h) ( And.intro (hP.ext h) ( And.intro (kR.ext h) ( And.intro (kP.ext h) (qT X h)))))
 clear X hR hP kR kP
 refine(HN3.out _ _ h7).mono ?_
 rintro e wS ⟨BT,gt,rfl,st⟩
 have ST:=hide st
 clear st h7 HN3
 go_wp2_with fail
 refine(bnear_any _).mono ?_
 rintro e wN ⟨v8,rfl,h8,x⟩
 have TC:=hide (ST.out.ext x)
 have NC:=hide (show PosS w15 wN v8 nearP from .inr h8.toI)
 clear h8 x ST
 have HSC:=hide (sScore_yes (D:=1) TC.out (by decide) (by decide) (rightS_new threeR 3) (soundS_new threeR 3) NC.out near_score.2.1)
 rw [near_one] at HSC
 unfold SScorePost SLoop at HSC
 go_wp2_with fail
 refine HSC.out.mono ?_
 rintro e wd ⟨rfl,⟨ft,Lt,td,-⟩,fd⟩
 obtain⟨hR,hP,kR,kP,X⟩:=HS0.out _ td.old
 clear HS0 td fd HSC TC NC
 have fR:=kR.cell
 have fP:=kP.cell
 go_wp2_with fail
 refine(HHV.out _ _ _ hR hP).mono ?_
 rintro e w36 ⟨rfl,x⟩
 replace hR:=hR.ext x
 replace hP:=hP.ext x
 replace kR:=kR.ext x
 replace kP:=kP.ext x
 replace X:=qT X x
 replace fR:=kR.cell
 replace fP:=kP.cell
 clear x
 clear HHV
 clear fR fP
 go_wp2
 all_goals go_ret
 all_goals exact .inl (by first | rfl | simp)
set_option maxHeartbeats 4000000 in
set_option maxRecDepth 100000 in
theorem topSearch_no(R:RM)(P:PosM)(v u:Value)(D s b:Int)(w:World)(hR:RA w v R)(hP:PA w u P)(K:Int)(hK:(wrap64 (b.tmod 8+8)).tmod 8=K)(k0:0≤K)(k1:K<8)(j:Nat)(hj:(wrap64 (s.tmod 50+50)).tmod 50=(j:Int))(j1:j<50)(hh:bheavyB R P D=false)(he:bestE R P D≠0) :
  Calls Crz.prog 5 #[v,u,.int .i64 D,.int .i64 s,.int .i64 b] w LawR:=by
 have HHV:=hide (fun W (v1 v2:Value) (h1:RA W v1 R) (h2:PA W v2 P)=>bheavy_any R P v1 v2 D W h1 h2)
 rw [hh] at HHV
 clear hh
 have HWN:=hide (fun W (v1 v2:Value) (h1:RA W v1 threeR) (h2:PA W v2 nearP)=>WScore_any threeR nearP v1 v2 1 (-1000) 1000 W h1 h2)
 rw [near_full.1,near_full.2.1,near_full.2.2] at HWN
 have HDN:=hide (fun W (v1 v2:Value) (h1:RA W v1 threeR) (h2:PA W v2 nearP)=>Deepen_run threeR nearP v1 v2 1 50 W h1 h2 (check_iff.2 ⟨valid_three,sound_near⟩) (by omega) (by omega) (crowd_zero (near_crowd (W:=2) (.inl rfl) (by omega) (by omega))).2.2)
 rw [near_deep.1,near_deep.2] at HDN
 have HBS:=hide (fun W (v1 v2:Value) (h1:RA W v1 threeR) (h2:PA W v2 nearP)=>bestS12 W v1 v2 h1 h2)
 have HN3:=hide (fun W (v:Value) (h:RA W v threeR)=>sNew_yes threeR v 3 W h valid_three (by omega) (by omega))
 unfold SNewPost at HN3
 rw [show ((3:Nat):Int)=3 from rfl] at HN3
 have hwK:IntKind.i64.wrap (K+1)=K+1:=by rw [IntKind.wrap_i64];omega
 have hwj:IntKind.i64.wrap ((j:Int)+1)=(j:Int)+1:=by rw [IntKind.wrap_i64];omega
 have j0:(0:Int)≤(j:Int):=by omega
 have j2:(j:Int)<50:=by omega
 have HMB:=hide (fun W (v1 v2:Value) (h1:RA W v1 R) (h2:PA W v2 P)=>MBest_any R P v1 v2 D W h1 h2)
 rw [show bestY R P D=(⟨0,0,0⟩,0) from if_neg he] at HMB
 have t0:(bestE R P D != 0)=true:=by simpa using he
 clear he
 generalize bestE R P D=E at *
 have hR0:=hR
 have hP0:=hP
 obtain⟨pA,pc,sA,sc,eA,ec,rfl,-⟩:=hR0
 obtain⟨cA,cc,aA,ac,bA,bc,rfl,-⟩:=hP0
 go_enter Crz.func5,Tryz.ntmps5
 go_wp2_with fail
 obtain⟨xa,kR,kP⟩:=blks2 w #[.string R.name,.int .i64 R.width,.int .i64 R.height,.slice pA R.pieces.length pc,.slice sA R.start.length sc,.bool R.falls,.bool R.keeps,.slice eA R.ends.length ec,.int .i64 R.blocked,.int .i64 R.quiet,.int .i64 R.rept] 26 #[.slice cA P.cells.length cc,.slice aA P.hand0.length ac,.slice bA P.hand1.length bc,.int .i64 P.turn,.int .i64 P.quiet] 29
 replace hR:=hR.ext xa
 replace hP:=hP.ext xa
 have X:=xa
 clear xa
 generalize ((w.alloc _).alloc _)=w2 at *
 generalize w.heap.size+1=BP at *
 generalize w.heap.size=BR at *
 refine(bthree_any _).mono ?_
 rintro e w3 ⟨v1,rfl,h1,x⟩
 replace hR:=hR.ext x
 replace hP:=hP.ext x
 replace kR:=kR.ext x
 replace kP:=kP.ext x
 replace X:=qT X x
 clear x
 go_wp2_with fail
 refine(bnear_any _).mono ?_
 rintro e w4 ⟨v2,rfl,h2,x⟩
 replace hR:=hR.ext x
 replace hP:=hP.ext x
 replace kR:=kR.ext x
 replace kP:=kP.ext x
 replace h1:=h1.ext x
 replace X:=qT X x
 clear x
 replace h2:=h2.at_
 go_wp2_with fail
 refine(HWN.out _ _ _ h1 h2).mono ?_
 rintro e w5 ⟨rfl,x⟩
 replace hR:=hR.ext x
 replace hP:=hP.ext x
 replace kR:=kR.ext x
 replace kP:=kP.ext x
 replace h1:=h1.ext x
 replace h2:=h2.ext x
 replace X:=qT X x
 clear x
 clear h1 h2
 clear HWN
 go_wp2_with fail
 refine(bscored_any _).mono ?_
 rintro e w6 ⟨rfl,x⟩
 replace hR:=hR.ext x
 replace hP:=hP.ext x
 replace kR:=kR.ext x
 replace kP:=kP.ext x
 replace X:=qT X x
 clear x
 go_wp2_with fail
 refine(bthree_any _).mono ?_
 rintro e w7 ⟨v3,rfl,h3,x⟩
 replace hR:=hR.ext x
 replace hP:=hP.ext x
 replace kR:=kR.ext x
 replace kP:=kP.ext x
 replace X:=qT X x
 clear x
 go_wp2_with fail
 refine(bnear_any _).mono ?_
 rintro e w8 ⟨v4,rfl,h4,x⟩
 replace hR:=hR.ext x
 replace hP:=hP.ext x
 replace kR:=kR.ext x
 replace kP:=kP.ext x
 replace h3:=h3.ext x
 replace X:=qT X x
 clear x
 replace h4:=h4.at_
 go_wp2_with fail
 refine(HDN.out _ _ _ h3 h4).mono ?_
 rintro e w9 ⟨rfl,x⟩
 replace hR:=hR.ext x
 replace hP:=hP.ext x
 replace kR:=kR.ext x
 replace kP:=kP.ext x
 replace h3:=h3.ext x
 replace h4:=h4.ext x
 replace X:=qT X x
 clear x
 clear h3 h4
 clear HDN
 obtain⟨xa,kX⟩:=blks1 w9 #[.int .i64 (-1),.int .i64 2,.int .i64 0,.int .i64 999,.int .i64 1,.int .i64 6] 62
 replace hR:=hR.ext xa
 replace hP:=hP.ext xa
 replace kR:=kR.ext xa
 replace kP:=kP.ext xa
 replace X:=qT X xa
 clear xa
 go_upto_region 5 with fail
 generalize (w9.alloc _)=w10 at *
 generalize w9.heap.size=BX at *
 have fX:=kX.cell
 go_wp2_with fail
 clear fX
 clear kX
 refine(bthree_any _).mono ?_
 rintro e w11 ⟨v5,rfl,h5,x⟩
 replace hR:=hR.ext x
 replace hP:=hP.ext x
 replace kR:=kR.ext x
 replace kP:=kP.ext x
 replace X:=qT X x
 clear x
 go_wp2_with fail
 refine(bnear_any _).mono ?_
 rintro e w12 ⟨v6,rfl,h6,x⟩
 replace hR:=hR.ext x
 replace hP:=hP.ext x
 replace kR:=kR.ext x
 replace kP:=kP.ext x
 replace h5:=h5.ext x
 replace X:=qT X x
 clear x
 replace h6:=h6.at_
 go_wp2_with fail
 refine(HBS.out _ _ _ h5 h6).mono ?_
 rintro e w13 (⟨rfl,x⟩ | ⟨pv,rfl,hs⟩)
 rotate_left
 ·have HS:=hide hs
  clear hs
  go_wp2
  exact⟨rfl,.inr HS.out⟩
 replace hR:=hR.ext x
 replace hP:=hP.ext x
 replace kR:=kR.ext x
 replace kP:=kP.ext x
 replace h5:=h5.ext x
 replace h6:=h6.ext x
 replace X:=qT X x
 clear x
 clear h5 h6
 clear HBS
 obtain⟨xa,kY⟩:=blks1 w13 #[.int .i64 (-1),.int .i64 2,.int .i64 0] 31
 replace hR:=hR.ext xa
 replace hP:=hP.ext xa
 replace kR:=kR.ext xa
 replace kP:=kP.ext xa
 replace X:=qT X xa
 clear xa
 go_wp2_with fail
 generalize (w13.alloc _)=w14 at *
 generalize w13.heap.size=BY at *
 clear kY
 refine(bthree_any _).mono ?_
 rintro e w15 ⟨v7,rfl,h7,x⟩
 replace hR:=hR.ext x
 replace hP:=hP.ext x
 replace kR:=kR.ext x
 replace kP:=kP.ext x
 replace X:=qT X x
 clear x
 go_wp2_with fail
 have HS0:=hide (fun W (h:Ext w15 W)=>And.intro (hR.ext h) ( And.intro (hP.ext h) ( And.intro (kR.ext h) ( And.intro (kP.ext h) (qT X h)))))
 clear X hR hP kR kP
 refine(HN3.out _ _ h7).mono ?_
 rintro e wS ⟨BT,gt,rfl,st⟩
 have ST:=hide st
 clear st h7 HN3
 go_wp2_with fail
 refine(bnear_any _).mono ?_
 rintro e wN ⟨v8,rfl,h8,x⟩
 have TC:=hide (ST.out.ext x)
 have NC:=hide (show PosS w15 wN v8 nearP from .inr h8.toI)
 clear h8 x ST
 have HSC:=hide (sScore_yes (D:=1) TC.out (by decide) (by decide) (rightS_new threeR 3) (soundS_new threeR 3) NC.out near_score.2.1)
 rw [near_one] at HSC
 unfold SScorePost SLoop at HSC
 go_wp2_with fail
 refine HSC.out.mono ?_
 rintro e wd ⟨rfl,⟨ft,Lt,td,-⟩,fd⟩
 obtain⟨hR,hP,kR,kP,X⟩:=HS0.out _ td.old
 clear HS0 td fd HSC TC NC
 have fR:=kR.cell
 have fP:=kP.cell
 go_wp2_with fail
 refine(HHV.out _ _ _ hR hP).mono ?_
 rintro e w36 ⟨rfl,x⟩
 replace hR:=hR.ext x
 replace hP:=hP.ext x
 replace kR:=kR.ext x
 replace kP:=kP.ext x
 replace X:=qT X x
 replace fR:=kR.cell
 replace fP:=kP.cell
 clear x
 clear HHV
 go_wp2_with fail
 refine(HMB.out _ _ _ hR hP).mono ?_
 rintro e w37 ⟨rfl,x⟩
 replace hR:=hR.ext x
 replace hP:=hP.ext x
 replace kR:=kR.ext x
 replace kP:=kP.ext x
 replace X:=qT X x
 replace fR:=kR.cell
 replace fP:=kP.cell
 clear x
 clear HMB
 clear fR fP
 obtain⟨xa,kM⟩:=blks1 w37 #[.int .i64 0,.int .i64 0,.int .i64 0] 31
 replace hR:=hR.ext xa
 replace hP:=hP.ext xa
 replace kR:=kR.ext xa
 replace kP:=kP.ext xa
 replace X:=qT X xa
 clear xa
 go_wp2_with fail
 generalize (w37.alloc _)=w38 at *
 generalize w37.heap.size=BM at *
 have fM:=kM.cell
 go_wp2
 all_goals go_ret
 all_goals exact .inl (by first | rfl | simp)
set_option maxHeartbeats 4000000 in
set_option maxRecDepth 100000 in
theorem topSearch_yes(R:RM)(P:PosM)(v u:Value)(D s b:Int)(w:World)(hR:RA w v R)(hP:PA w u P)(K:Int)(hK:(wrap64 (b.tmod 8+8)).tmod 8=K)(k0:0≤K)(k1:K<8)(j:Nat)(hj:(wrap64 (s.tmod 50+50)).tmod 50=(j:Int))(j1:j<50)(hh:bheavyB R P D=false)(he:bestE R P D=0) :
  Calls Crz.prog 5 #[v,u,.int .i64 D,.int .i64 s,.int .i64 b] w LawR:=by
 have hpn:=bheavy_no hh
 have HHV:=hide (fun W (v1 v2:Value) (h1:RA W v1 R) (h2:PA W v2 P)=>bheavy_any R P v1 v2 D W h1 h2)
 rw [hh] at HHV
 clear hh
 have HWN:=hide (fun W (v1 v2:Value) (h1:RA W v1 threeR) (h2:PA W v2 nearP)=>WScore_any threeR nearP v1 v2 1 (-1000) 1000 W h1 h2)
 rw [near_full.1,near_full.2.1,near_full.2.2] at HWN
 have HDN:=hide (fun W (v1 v2:Value) (h1:RA W v1 threeR) (h2:PA W v2 nearP)=>Deepen_run threeR nearP v1 v2 1 50 W h1 h2 (check_iff.2 ⟨valid_three,sound_near⟩) (by omega) (by omega) (crowd_zero (near_crowd (W:=2) (.inl rfl) (by omega) (by omega))).2.2)
 rw [near_deep.1,near_deep.2] at HDN
 have HBS:=hide (fun W (v1 v2:Value) (h1:RA W v1 threeR) (h2:PA W v2 nearP)=>bestS12 W v1 v2 h1 h2)
 have HN3:=hide (fun W (v:Value) (h:RA W v threeR)=>sNew_yes threeR v 3 W h valid_three (by omega) (by omega))
 unfold SNewPost at HN3
 rw [show ((3:Nat):Int)=3 from rfl] at HN3
 have hwK:IntKind.i64.wrap (K+1)=K+1:=by rw [IntKind.wrap_i64];omega
 have hwj:IntKind.i64.wrap ((j:Int)+1)=(j:Int)+1:=by rw [IntKind.wrap_i64];omega
 have j0:(0:Int)≤(j:Int):=by omega
 have j2:(j:Int)<50:=by omega
 have hce:crowdE R P D (K+1)=0:=by rw [crowd_best (by omega) (by omega)];exact he
 obtain⟨hp,hd1,hr⟩:=crowd_zero hce
 obtain⟨hV,hS,-,hd12,-⟩:=perft_zero hp
 obtain⟨c,hc⟩:=row0_ex R P (D.toNat-1)
 have hoy:ofM R D.toNat P=(firstM R (D.toNat-1) P).2:=by
  have h:=first_score hr (D.toNat-1)
  rw [show D.toNat-1+1=D.toNat by omega] at h
  exact h.symm
 have hbd:=of_bound R D.toNat P hS.turn (by omega)
 unfold boundB at hbd
 have HMB:=hide (fun W (v1 v2:Value) (h1:RA W v1 R) (h2:PA W v2 P)=>MBest_any R P v1 v2 D W h1 h2)
 rw [show bestY R P D=firstM R (D.toNat-1) P from if_pos he,he] at HMB
 have HBA:=hide (fun W (v1 v2:Value) (h1:RA W v1 R) (h2:PA W v2 P)=>BestL_yes (W:=K+1) h1 h2 hce hc)
 have HWR:=hide (fun W (v1 v2:Value) (h1:RA W v1 R) (h2:PA W v2 P)=>WScore_any R P v1 v2 D (-1000) 1000 W h1 h2)
 obtain⟨w1,w2,w3⟩:=win_three (D:=D) (lo:=-1000) (hi:=1000) hp (by unfold winB;omega)
 rw [w1,w2,w3,show max (-1000) (min 1000 (ofM R D.toNat P))=ofM R D.toNat P by omega,hoy] at HWR
 have HDE:=hide (fun W (v1 v2:Value) (h1:RA W v1 R) (h2:PA W v2 P)=>Deepen_run R P v1 v2 D 2000 W h1 h2 (check_iff.2 ⟨hV,hS⟩) (by omega) (by omega) hr)
 rw [(deep_full hp hd1 hr hpn).1,(deep_full hp hd1 hr hpn).2] at HDE
 have HNR:=hide (fun W (v1:Value) (h1:RA W v1 R)=>sNew_yes R v1 (j+1) W h1 hV (by omega) (by omega))
 rw [show ((j+1:Nat):Int)=(j:Int)+1 from by omega] at HNR
 unfold SNewPost at HNR
 have HPE:=hide hp
 have HOY:=hide hoy
 clear he hce hp hd1 hr hV hS hd12 hc hoy hbd w1 w2 w3 hpn
 generalize firstM R (D.toNat-1) P=y at *
 generalize perftN R P D=T at *
 have hR0:=hR
 have hP0:=hP
 obtain⟨pA,pc,sA,sc,eA,ec,rfl,-⟩:=hR0
 obtain⟨cA,cc,aA,ac,bA,bc,rfl,-⟩:=hP0
 go_enter Crz.func5,Tryz.ntmps5
 go_wp2_with fail
 obtain⟨xa,kR,kP⟩:=blks2 w #[.string R.name,.int .i64 R.width,.int .i64 R.height,.slice pA R.pieces.length pc,.slice sA R.start.length sc,.bool R.falls,.bool R.keeps,.slice eA R.ends.length ec,.int .i64 R.blocked,.int .i64 R.quiet,.int .i64 R.rept] 26 #[.slice cA P.cells.length cc,.slice aA P.hand0.length ac,.slice bA P.hand1.length bc,.int .i64 P.turn,.int .i64 P.quiet] 29
 replace hR:=hR.ext xa
 replace hP:=hP.ext xa
 have X:=xa
 clear xa
 generalize ((w.alloc _).alloc _)=w2 at *
 generalize w.heap.size+1=BP at *
 generalize w.heap.size=BR at *
 refine(bthree_any _).mono ?_
 rintro e w3 ⟨v1,rfl,h1,x⟩
 replace hR:=hR.ext x
 replace hP:=hP.ext x
 replace kR:=kR.ext x
 replace kP:=kP.ext x
 replace X:=qT X x
 clear x
 go_wp2_with fail
 refine(bnear_any _).mono ?_
 rintro e w4 ⟨v2,rfl,h2,x⟩
 replace hR:=hR.ext x
 replace hP:=hP.ext x
 replace kR:=kR.ext x
 replace kP:=kP.ext x
 replace h1:=h1.ext x
 replace X:=qT X x
 clear x
 replace h2:=h2.at_
 go_wp2_with fail
 refine(HWN.out _ _ _ h1 h2).mono ?_
 rintro e w5 ⟨rfl,x⟩
 replace hR:=hR.ext x
 replace hP:=hP.ext x
 replace kR:=kR.ext x
 replace kP:=kP.ext x
 replace h1:=h1.ext x
 replace h2:=h2.ext x
 replace X:=qT X x
 clear x
 clear h1 h2
 clear HWN
 go_wp2_with fail
 refine(bscored_any _).mono ?_
 rintro e w6 ⟨rfl,x⟩
 replace hR:=hR.ext x
 replace hP:=hP.ext x
 replace kR:=kR.ext x
 replace kP:=kP.ext x
 replace X:=qT X x
 clear x
 go_wp2_with fail
 refine(bthree_any _).mono ?_
 rintro e w7 ⟨v3,rfl,h3,x⟩
 replace hR:=hR.ext x
 replace hP:=hP.ext x
 replace kR:=kR.ext x
 replace kP:=kP.ext x
 replace X:=qT X x
 clear x
 go_wp2_with fail
 refine(bnear_any _).mono ?_
 rintro e w8 ⟨v4,rfl,h4,x⟩
 replace hR:=hR.ext x
 replace hP:=hP.ext x
 replace kR:=kR.ext x
 replace kP:=kP.ext x
 replace h3:=h3.ext x
 replace X:=qT X x
 clear x
 replace h4:=h4.at_
 go_wp2_with fail
 refine(HDN.out _ _ _ h3 h4).mono ?_
 rintro e w9 ⟨rfl,x⟩
 replace hR:=hR.ext x
 replace hP:=hP.ext x
 replace kR:=kR.ext x
 replace kP:=kP.ext x
 replace h3:=h3.ext x
 replace h4:=h4.ext x
 replace X:=qT X x
 clear x
 clear h3 h4
 clear HDN
 obtain⟨xa,kX⟩:=blks1 w9 #[.int .i64 (-1),.int .i64 2,.int .i64 0,.int .i64 999,.int .i64 1,.int .i64 6] 62
 replace hR:=hR.ext xa
 replace hP:=hP.ext xa
 replace kR:=kR.ext xa
 replace kP:=kP.ext xa
 replace X:=qT X xa
 clear xa
 go_upto_region 5 with fail
 generalize (w9.alloc _)=w10 at *
 generalize w9.heap.size=BX at *
 have fX:=kX.cell
 go_wp2_with fail
 clear fX
 clear kX
 refine(bthree_any _).mono ?_
 rintro e w11 ⟨v5,rfl,h5,x⟩
 replace hR:=hR.ext x
 replace hP:=hP.ext x
 replace kR:=kR.ext x
 replace kP:=kP.ext x
 replace X:=qT X x
 clear x
 go_wp2_with fail
 refine(bnear_any _).mono ?_
 rintro e w12 ⟨v6,rfl,h6,x⟩
 replace hR:=hR.ext x
 replace hP:=hP.ext x
 replace kR:=kR.ext x
 replace kP:=kP.ext x
 replace h5:=h5.ext x
 replace X:=qT X x
 clear x
 replace h6:=h6.at_
 go_wp2_with fail
 refine(HBS.out _ _ _ h5 h6).mono ?_
 rintro e w13 (⟨rfl,x⟩ | ⟨pv,rfl,hs⟩)
 rotate_left
 ·have HS:=hide hs
  clear hs
  go_wp2
  exact⟨rfl,.inr HS.out⟩
 replace hR:=hR.ext x
 replace hP:=hP.ext x
 replace kR:=kR.ext x
 replace kP:=kP.ext x
 replace h5:=h5.ext x
 replace h6:=h6.ext x
 replace X:=qT X x
 clear x
 clear h5 h6
 clear HBS
 obtain⟨xa,kY⟩:=blks1 w13 #[.int .i64 (-1),.int .i64 2,.int .i64 0] 31
 replace hR:=hR.ext xa
 replace hP:=hP.ext xa
 replace kR:=kR.ext xa
 replace kP:=kP.ext xa
 replace X:=qT X xa
 clear xa
 go_wp2_with fail
 generalize (w13.alloc _)=w14 at *
 generalize w13.heap.size=BY at *
 clear kY
 refine(bthree_any _).mono ?_
 rintro e w15 ⟨v7,rfl,h7,x⟩
 replace hR:=hR.ext x
 replace hP:=hP.ext x
 replace kR:=kR.ext x
 replace kP:=kP.ext x
 replace X:=qT X x
 clear x
 go_wp2_with fail
 have HS0:=hide (fun W (h:Ext w15 W)=>And.intro (hR.ext h) ( And.intro (hP.ext h) ( And.intro (kR.ext h) ( And.intro (kP.ext h) (qT X h)))))
 clear X hR hP kR kP
 refine(HN3.out _ _ h7).mono ?_
 rintro e wS ⟨BT,gt,rfl,st⟩
 have ST:=hide st
 clear st h7 HN3
 go_wp2_with fail
 refine(bnear_any _).mono ?_
 rintro e wN ⟨v8,rfl,h8,x⟩
 have TC:=hide (ST.out.ext x)
 have NC:=hide (show PosS w15 wN v8 nearP from .inr h8.toI)
 clear h8 x ST
 have HSC:=hide (sScore_yes (D:=1) TC.out (by decide) (by decide) (rightS_new threeR 3) (soundS_new threeR 3) NC.out near_score.2.1)
 rw [near_one] at HSC
 unfold SScorePost SLoop at HSC
 go_wp2_with fail
 refine HSC.out.mono ?_
 rintro e wd ⟨rfl,⟨ft,Lt,td,-⟩,fd⟩
 obtain⟨hR,hP,kR,kP,X⟩:=HS0.out _ td.old
 clear HS0 td fd HSC TC NC
 have fR:=kR.cell
 have fP:=kP.cell
 go_wp2_with fail
 refine(HHV.out _ _ _ hR hP).mono ?_
 rintro e w36 ⟨rfl,x⟩
 replace hR:=hR.ext x
 replace hP:=hP.ext x
 replace kR:=kR.ext x
 replace kP:=kP.ext x
 replace X:=qT X x
 replace fR:=kR.cell
 replace fP:=kP.cell
 clear x
 clear HHV
 go_wp2_with fail
 refine(HMB.out _ _ _ hR hP).mono ?_
 rintro e w37 ⟨rfl,x⟩
 replace hR:=hR.ext x
 replace hP:=hP.ext x
 replace kR:=kR.ext x
 replace kP:=kP.ext x
 replace X:=qT X x
 replace fR:=kR.cell
 replace fP:=kP.cell
 clear x
 clear HMB
 obtain⟨xa,kM⟩:=blks1 w37 #[.int .i64 y.1.src,.int .i64 y.1.dst,.int .i64 y.1.piece] 31
 replace hR:=hR.ext xa
 replace hP:=hP.ext xa
 replace kR:=kR.ext xa
 replace kP:=kP.ext xa
 replace X:=qT X xa
 have fR':=kR.cell
 have fP':=kP.cell
 clear xa
 go_wp2_with fail
 generalize (w37.alloc _)=w38 at *
 generalize w37.heap.size=BM at *
 replace fR:=kR.cell
 clear fR'
 replace fP:=kP.cell
 clear fP'
 have HS1:=hide (fun W (h:Ext w38 W)=>And.intro (hR.ext h) ( And.intro (hP.ext h) ( And.intro (kR.ext h) ( And.intro (kP.ext h) ( And.intro (kM.ext h) (qT X h))))))
 have HPW:=hide hP
 have KPW:=hide kP
 refine(HNR.out _ _ hR).mono ?_
 rintro e wT ⟨BS,g,rfl,st⟩
 have ST:=hide st
 have KP1:=hide (KPW.out.ext st.old)
 clear fR fP X KPW HNR st hR hP kR kP kM
 have HSC:=hide (sScore_yes (D:=D) ST.out (by rw [List.length_replicate];omega) (by rw [List.length_replicate];omega) (rightS_new R (j+1)) (soundS_new R (j+1)) (.inl HPW.out) HPE.out)
 rw [HOY.out] at HSC
 unfold SScorePost SLoop at HSC
 have fP:=KP1.out.cell
 go_wp2_with fail
 refine HSC.out.mono ?_
 rintro e wu ⟨rfl,⟨ft,Lt,td,-⟩,fd⟩
 obtain⟨hR,hP,kR,kP,kM,X⟩:=HS1.out _ td.old
 clear HS1 td fd HSC ST HPW KP1 fP HPE HOY
 have fR:=kR.cell
 have fP:=kP.cell
 go_wp2_with fail
 refine(HWR.out _ _ _ hR hP).mono ?_
 rintro e w59 ⟨rfl,x⟩
 replace hR:=hR.ext x
 replace hP:=hP.ext x
 replace kR:=kR.ext x
 replace kP:=kP.ext x
 replace kM:=kM.ext x
 replace X:=qT X x
 replace fR:=kR.cell
 replace fP:=kP.cell
 clear x
 clear HWR
 go_wp2_with fail
 refine(HDE.out _ _ _ hR hP).mono ?_
 rintro e w60 ⟨rfl,x⟩
 replace hR:=hR.ext x
 replace hP:=hP.ext x
 replace kR:=kR.ext x
 replace kP:=kP.ext x
 replace kM:=kM.ext x
 replace X:=qT X x
 replace fR:=kR.cell
 replace fP:=kP.cell
 clear x
 clear HDE
 obtain⟨xa,kX⟩:=blks1 w60 #[.int .i64 y.1.src,.int .i64 y.1.dst,.int .i64 y.1.piece,.int .i64 y.2,.int .i64 D,.int .i64 T] 62
 replace hR:=hR.ext xa
 replace hP:=hP.ext xa
 replace kR:=kR.ext xa
 replace kP:=kP.ext xa
 replace kM:=kM.ext xa
 replace X:=qT X xa
 have fR':=kR.cell
 have fP':=kP.cell
 clear xa
 go_wp2_with fail
 generalize (w60.alloc _)=w61 at *
 generalize w60.heap.size=BX at *
 replace fR:=kR.cell
 clear fR'
 replace fP:=kP.cell
 clear fP'
 refine(HBA.out _ _ _ hR hP).mono ?_
 rintro e w62 (⟨rfl,x⟩ | ⟨pv,rfl,hs⟩)
 rotate_left
 ·have HS:=hide hs
  clear hs
  go_wp2
  exact⟨rfl,.inr HS.out⟩
 replace hR:=hR.ext x
 replace hP:=hP.ext x
 replace kR:=kR.ext x
 replace kP:=kP.ext x
 replace kM:=kM.ext x
 replace kX:=kX.ext x
 replace X:=qT X x
 replace fR:=kR.cell
 replace fP:=kP.cell
 clear x
 clear HBA
 clear fR fP
 obtain⟨xa,kB,kE⟩:=blks2 w62 #[.int .i64 y.1.src,.int .i64 y.1.dst,.int .i64 y.1.piece] 31 #[.int .i64 0,.int .i64 0,.int .i64 0,.int .i64 0] 32
 replace hR:=hR.ext xa
 replace hP:=hP.ext xa
 replace kR:=kR.ext xa
 replace kP:=kP.ext xa
 replace kM:=kM.ext xa
 replace kX:=kX.ext xa
 replace X:=qT X xa
 clear xa
 go_wp2_with fail
 generalize ((w62.alloc _).alloc _)=w63 at *
 generalize w62.heap.size+1=BE at *
 generalize w62.heap.size=BB at *
 refine(fine_ext (bfine_any (some ⟨BE,0,none⟩) 4 4 [0,0,0,0] _ rfl (by omega) (blk_ints kE))).mono ?_
 rintro e w64 ⟨rfl,x⟩
 replace hR:=hR.ext x
 replace hP:=hP.ext x
 replace kR:=kR.ext x
 replace kP:=kP.ext x
 replace kM:=kM.ext x
 replace kX:=kX.ext x
 replace kB:=kB.ext x
 replace kE:=kE.ext x
 replace X:=qT X x
 clear x
 rw [show allZero [0,0,0,0]=true from rfl]
 clear kE
 have fM:=kM.cell
 have fX:=kX.cell
 have fB:=kB.cell
 go_wp2
 all_goals go_ret
 all_goals exact .inl (by first | rfl | simp)
theorem topSearch_law(v:Value)(R:RM)(u:Value)(P:PosM)(D s b:Int)(w:World)(hR:RA w v R)(hP:PA w u P) :
  Calls Crz.prog 5 #[v,u,.int .i64 D,.int .i64 s,.int .i64 b] w LawR:=by
 obtain⟨K,hK⟩:∃ K,(wrap64 (b.tmod 8+8)).tmod 8=K:=⟨_,rfl⟩
 obtain⟨k0,k1⟩:=mod_bd 8 (by omega) (by omega) b K hK
 obtain⟨J,hJ⟩:∃ J,(wrap64 (s.tmod 50+50)).tmod 50=J:=⟨_,rfl⟩
 obtain⟨j0,j1⟩:=mod_bd 50 (by omega) (by omega) s J hJ
 obtain⟨j,rfl⟩:∃ j:Nat,J=(j:Int):=⟨J.toNat,by omega⟩
 cases hh:bheavyB R P D
 ·by_cases he:bestE R P D=0
  ·exact topSearch_yes R P v u D s b w hR hP K hK k0 k1 j hJ (by omega) hh he
  ·exact topSearch_no R P v u D s b w hR hP K hK k0 k1 j hJ (by omega) hh he
 ·exact topSearch_heavy R P v u D s b w hR hP K hK k0 k1 j hJ (by omega) hh
end Go.Proofs.YtdoibgmmijhlfaaGreat
