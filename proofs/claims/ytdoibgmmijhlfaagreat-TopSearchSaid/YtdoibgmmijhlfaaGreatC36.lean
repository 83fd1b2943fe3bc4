/- MiniS -/
import Derived.Test.YtdoibgmmijhlfaaGreatC34
namespace Go.Proofs.YtdoibgmmijhlfaaGreat
open Go.ChangeShapes Go.WideShapes Go.ChangeAt Go.RowKit Go.Shelf
set_option linter.unusedVariables false
set_option linter.unusedSimpArgs false
def scoreM(R:RM)(P:PosM)(D:Int):Int:=if perftE R P D=0 then ofM R D.toNat P else 0
def bestE(R:RM)(P:PosM)(D:Int):Int:=if perftE R P D≠0 then perftE R P D else if D=0 then 1 else if rM R P≠0 then 14 else 0
def bestY(R:RM)(P:PosM)(D:Int):MM×Int:=if bestE R P D=0 then firstM R (D.toNat-1) P else (⟨0,0,0⟩,0)
theorem perft_zero{R:RM}{P:PosM}{D:Int}(h:perftE R P D=0):Valid R∧Sound R P∧0≤D∧D≤12∧treeM R D.toNat P≤50000:=by
 have hck:checkE R P=0:=by
  by_cases hc:checkE R P=0
  ·exact hc
  ·exact absurd h (by rw [(perftE_chk hc).1];exact hc)
 by_cases ha:D<0∨12<D
 ·exact absurd h (by rw [(perftE_arg hck ha).1];decide)
 ·by_cases ht:50000<treeM R D.toNat P
  ·exact absurd h (by rw [(perftE_bound hck ha ht).1];decide)
  ·obtain⟨hV,hS⟩:=check_iff.1 hck
   exact⟨hV,hS,by omega,by omega,by omega⟩
set_option maxHeartbeats 2000000 in
set_option maxRecDepth 100000 in
theorem MScore_any(R:RM)(P:PosM)(v u:Value)(D:Int)(w:World)(hR:RA w v R)(hP:PA w u P) :
  Calls Crz.prog 28 #[v,u,.int .i64 D] w fun e w'=>e=.returned (.tuple #[.int .i64 (scoreM R P D),.int .i64 (perftE R P D)])∧Ext w w':=by
 have HT:=hide (fun W (hW:Ext w W)=>PfTree_any R P v u D W (hR.ext hW) (hP.ext hW))
 have HRF:=hide (fun W (hW:Ext w W)=>And.intro (hR.ext hW) (hP.ext hW))
 obtain⟨pA,pc,sA,sc,eA,ec,rfl,-⟩:=hR
 obtain⟨cA,cc,aA,ac,bA,bc,rfl,-⟩:=hP
 obtain⟨x1,k1,k2⟩:=blks2 w #[.string R.name,.int .i64 R.width,.int .i64 R.height,.slice pA R.pieces.length pc,.slice sA R.start.length sc,.bool R.falls,.bool R.keeps,.slice eA R.ends.length ec,.int .i64 R.blocked,.int .i64 R.quiet,.int .i64 R.rept] 26 #[.slice cA P.cells.length cc,.slice aA P.hand0.length ac,.slice bA P.hand1.length bc,.int .i64 P.turn,.int .i64 P.quiet] 29
 have HX:=hide x1
 have K1:=hide k1
 have K2:=hide k2
 clear x1 k1 k2
 have f1:=K1.out.cell
 have f2:=K2.out.cell
 by_cases hz:perftE R P D=0
 ·obtain⟨hV,hS,d0,d1,-⟩:=perft_zero hz
  have HO:=hide (fun W (hW:Ext w W)=>of_any R hV D.toNat (by omega) P _ _ D W (by omega) hS (HRF.out W hW).1 (HRF.out W hW).2)
  rw [hz] at HT ⊢
  rw [show scoreM R P D=ofM R D.toNat P from if_pos hz]
  clear hz hV hS d0 d1 HRF
  generalize ofM R D.toNat P=y at *
  generalize perftN R P D=N at *
  go_enter Crz.func28,Tryz.ntmps28
  go_wp2_with fail
  refine(HT.out _ HX.out).mono ?_
  rintro e w2 ⟨rfl,x2⟩
  have X2:=hide (qT HX.out x2)
  have g1:=(K1.out.ext x2).cell
  have g2:=(K2.out.ext x2).cell
  clear f1 f2 x2
  go_wp2_with fail
  refine(HO.out _ X2.out).mono ?_
  rintro e w3 ⟨rfl,x3⟩
  have X3:=hide (qT X2.out x3)
  clear g1 g2 x3
  go_wp2
  go_ret2
  exact⟨rfl,X3.out⟩
 ·rw [show scoreM R P D=0 from if_neg hz]
  have t0:(perftE R P D != 0)=true:=by simpa using hz
  clear hz HRF
  generalize perftE R P D=E at *
  generalize perftN R P D=N at *
  go_enter Crz.func28,Tryz.ntmps28
  go_wp2_with fail
  refine(HT.out _ HX.out).mono ?_
  rintro e w2 ⟨rfl,x2⟩
  have X2:=hide (qT HX.out x2)
  clear f1 f2 x2
  go_wp2
  go_ret2
  exact⟨rfl,X2.out⟩
theorem bestE_one{R:RM}{P:PosM}{D:Int}(h:perftE R P D≠0):bestE R P D=perftE R P D∧bestY R P D=(⟨0,0,0⟩,0):=by
 have e:bestE R P D=perftE R P D:=if_pos h
 exact⟨e,if_neg (by rw [e];exact h)⟩
theorem bestE_two{R:RM}{P:PosM}{D:Int}(h:perftE R P D=0)(hd:D=0):bestE R P D=1∧bestY R P D=(⟨0,0,0⟩,0):=by
 have e:bestE R P D=1:=by unfold bestE;rw [if_neg (by simpa using h),if_pos hd]
 exact⟨e,if_neg (by rw [e];decide)⟩
theorem bestE_three{R:RM}{P:PosM}{D:Int}(h:perftE R P D=0)(hd:D≠0)(hr:rM R P≠0):bestE R P D=14∧bestY R P D=(⟨0,0,0⟩,0):=by
 have e:bestE R P D=14:=by unfold bestE;rw [if_neg (by simpa using h),if_neg hd,if_pos hr]
 exact⟨e,if_neg (by rw [e];decide)⟩
theorem bestE_four{R:RM}{P:PosM}{D:Int}(h:perftE R P D=0)(hd:D≠0)(hr:rM R P=0):bestE R P D=0∧bestY R P D=firstM R (D.toNat-1) P:=by
 have e:bestE R P D=0:=by unfold bestE;rw [if_neg (by simpa using h),if_neg hd,if_neg (by simpa using hr)]
 exact⟨e,if_pos e⟩
abbrev moveV(m:MM):Value:=.agg #[.int .i64 m.src,.int .i64 m.dst,.int .i64 m.piece]
set_option maxHeartbeats 4000000 in
set_option maxRecDepth 100000 in
theorem MBest_any(R:RM)(P:PosM)(v u:Value)(D:Int)(w:World)(hR:RA w v R)(hP:PA w u P) :
  Calls Crz.prog 15 #[v,u,.int .i64 D] w fun e w'=>e=.returned (.tuple #[moveV (bestY R P D).1,.int .i64 (bestY R P D).2,.int .i64 (bestE R P D)])∧Ext w w':=by
 have HT:=hide (fun W (hW:Ext w W)=>PfTree_any R P v u D W (hR.ext hW) (hP.ext hW))
 have HRF:=hide (fun W (hW:Ext w W)=>And.intro (hR.ext hW) (hP.ext hW))
 obtain⟨pA,pc,sA,sc,eA,ec,rfl,-⟩:=hR
 obtain⟨cA,cc,aA,ac,bA,bc,rfl,-⟩:=hP
 obtain⟨x1,k1,k2,k3⟩:=blks3 w #[.string R.name,.int .i64 R.width,.int .i64 R.height,.slice pA R.pieces.length pc,.slice sA R.start.length sc,.bool R.falls,.bool R.keeps,.slice eA R.ends.length ec,.int .i64 R.blocked,.int .i64 R.quiet,.int .i64 R.rept] 26 #[.slice cA P.cells.length cc,.slice aA P.hand0.length ac,.slice bA P.hand1.length bc,.int .i64 P.turn,.int .i64 P.quiet] 29 #[.int .i64 0,.int .i64 0,.int .i64 0] 31
 have HX:=hide x1
 have K1:=hide k1
 have K2:=hide k2
 have K3:=hide k3
 clear x1 k1 k2 k3
 have f1:=K1.out.cell
 have f2:=K2.out.cell
 have hlt:w.heap.size≤w.heap.size+1+1:=by omega
 have HLT:=hide hlt
 clear hlt
 by_cases hz:perftE R P D=0
 ·obtain⟨hV,hS,d0,d1,-⟩:=perft_zero hz
  rw [hz] at HT
  by_cases hd:D=0
  ·rw [(bestE_two hz hd).1,(bestE_two hz hd).2]
   have t0:(D == 0)=true:=by simpa using hd
   clear hz hd hV hS d0 d1 HRF
   generalize perftN R P D=N at *
   go_enter Crz.func15,Tryz.ntmps15
   go_wp2_with fail
   refine(HT.out _ HX.out).mono ?_
   rintro e w2 ⟨rfl,x2⟩
   have X2:=hide (qT HX.out x2)
   have K4:=hide (K3.out.ext x2)
   clear f1 f2 x2
   generalize w.heap.size+1+1=BO at *
   have gz:=K4.out.frozen
   have gc:=K4.out.cell
   go_wp2
   have K9:=qB (i:=2) (u:=.int .i64 0) (qB (i:=1) (u:=.int .i64 0) (qB (i:=0) (u:=.int .i64 0) K4.out rfl) rfl) (cs':=#[.int .i64 0,.int .i64 0,.int .i64 0]) rfl
   have X9:=(qS (qS (qS X2.out (p:=⟨BO,0,none⟩) HLT.out (.int .i64 0)) (p:=⟨BO,1,none⟩) HLT.out (.int .i64 0)) (p:=⟨BO,2,none⟩) HLT.out (.int .i64 0))
   generalize (((w2.setCell ⟨BO,0,none⟩ (.int .i64 0)).setCell ⟨BO,1,none⟩ (.int .i64 0)).setCell ⟨BO,2,none⟩ (.int .i64 0))=Wf at *
   clear gz gc
   have rr0:Wf.cell? ⟨BO,0,none⟩=some (.int .i64 0):=K9.cell 0
   have rr1:Wf.cell? ⟨BO,1,none⟩=some (.int .i64 0):=K9.cell 1
   have rr2:Wf.cell? ⟨BO,2,none⟩=some (.int .i64 0):=K9.cell 2
   refine bodyPost_ret (v:=.tuple #[moveV ⟨0,0,0⟩,.int .i64 0,.int .i64 1]) ?_ rfl ?_
   ·simp [results,Tryz.results15,go_sem,rr0,rr1,rr2]
   ·exact⟨rfl,X9⟩
  ·have HRS:=hide (fun W (hW:Ext w W)=>Result_any R P _ _ W (HRF.out W hW).1 (HRF.out W hW).2 hV hS)
   have t0:(D == 0)=false:=by simpa using hd
   by_cases hr:rM R P=0
   ·rw [(bestE_four hz hd hr).1,(bestE_four hz hd hr).2]
    have HF:=hide (fun W (hW:Ext w W)=>first_any R hV (D.toNat-1) (by omega) P _ _ D W (by omega) hS (HRF.out W hW).1 (HRF.out W hW).2)
    rw [hr] at HRS
    clear hz hd hr hV hS d0 d1 HRF
    generalize perftN R P D=N at *
    generalize firstM R (D.toNat-1) P=y at *
    go_enter Crz.func15,Tryz.ntmps15
    go_wp2_with fail
    refine(HT.out _ HX.out).mono ?_
    rintro e w2 ⟨rfl,x2⟩
    have X2:=hide (qT HX.out x2)
    have KR2:=hide (K1.out.ext x2)
    have KP2:=hide (K2.out.ext x2)
    have KO2:=hide (K3.out.ext x2)
    clear f1 f2 x2 K1 K2 K3
    have f1:=KR2.out.cell
    have f2:=KP2.out.cell
    go_wp2_with fail
    refine(HRS.out _ X2.out).mono ?_
    rintro e w3 ⟨rfl,x3⟩
    have X3:=hide (qT X2.out x3)
    have KR3:=hide (KR2.out.ext x3)
    have KP3:=hide (KP2.out.ext x3)
    have KO3:=hide (KO2.out.ext x3)
    clear f1 f2 x3 KR2 KP2 KO2
    have f1:=KR3.out.cell
    have f2:=KP3.out.cell
    go_wp2_with fail
    refine(HF.out _ X3.out).mono ?_
    rintro e w4 ⟨rfl,x4⟩
    have KO4:=hide (KO3.out.ext x4)
    clear f1 f2 KR3 KP3 KO3
    have X4:=hide (qT X3.out x4)
    clear x4
    generalize w.heap.size+1+1=BO at *
    obtain⟨x5,k5⟩:=blks1 w4 #[.int .i64 y.1.src,.int .i64 y.1.dst,.int .i64 y.1.piece] 31
    go_upto_region 9 with fail
    have X5:=hide (qT X4.out x5)
    have KO5:=hide (KO4.out.ext x5)
    have K5:=hide k5
    clear x5 k5
    generalize w4.alloc _=w5 at *
    generalize w4.heap.size=BY at *
    have g5:=K5.out.cell
    have gz:=KO5.out.frozen
    have gc:=KO5.out.cell
    go_wp2
    have K9:=qB (i:=2) (u:=.int .i64 y.1.piece) (qB (i:=1) (u:=.int .i64 y.1.dst) (qB (i:=0) (u:=.int .i64 y.1.src) KO5.out rfl) rfl) (cs':=#[.int .i64 y.1.src,.int .i64 y.1.dst,.int .i64 y.1.piece]) rfl
    have X9:=(qS (qS (qS X5.out (p:=⟨BO,0,none⟩) HLT.out (.int .i64 y.1.src)) (p:=⟨BO,1,none⟩) HLT.out (.int .i64 y.1.dst)) (p:=⟨BO,2,none⟩) HLT.out (.int .i64 y.1.piece))
    generalize (((w5.setCell ⟨BO,0,none⟩ (.int .i64 y.1.src)).setCell ⟨BO,1,none⟩ (.int .i64 y.1.dst)).setCell ⟨BO,2,none⟩ (.int .i64 y.1.piece))=Wf at *
    clear gz gc
    have rr0:Wf.cell? ⟨BO,0,none⟩=some (.int .i64 y.1.src):=K9.cell 0
    have rr1:Wf.cell? ⟨BO,1,none⟩=some (.int .i64 y.1.dst):=K9.cell 1
    have rr2:Wf.cell? ⟨BO,2,none⟩=some (.int .i64 y.1.piece):=K9.cell 2
    refine bodyPost_ret (v:=.tuple #[moveV y.1,.int .i64 y.2,.int .i64 0]) ?_ rfl ?_
    ·simp [results,Tryz.results15,go_sem,rr0,rr1,rr2]
    ·exact⟨rfl,X9⟩
   ·rw [(bestE_three hz hd hr).1,(bestE_three hz hd hr).2]
    have t1:(rM R P != 0)=true:=by simpa using hr
    clear hz hd hr hV hS d0 d1 HRF
    generalize perftN R P D=N at *
    generalize rM R P=z at *
    go_enter Crz.func15,Tryz.ntmps15
    go_wp2_with fail
    refine(HT.out _ HX.out).mono ?_
    rintro e w2 ⟨rfl,x2⟩
    have X2:=hide (qT HX.out x2)
    have KR2:=hide (K1.out.ext x2)
    have KP2:=hide (K2.out.ext x2)
    have KO2:=hide (K3.out.ext x2)
    clear f1 f2 x2 K1 K2 K3
    have f1:=KR2.out.cell
    have f2:=KP2.out.cell
    go_wp2_with fail
    refine(HRS.out _ X2.out).mono ?_
    rintro e w3 ⟨rfl,x3⟩
    have X3:=hide (qT X2.out x3)
    have KO3:=hide (KO2.out.ext x3)
    clear f1 f2 x3 KR2 KP2 KO2
    generalize w.heap.size+1+1=BO at *
    have gz:=KO3.out.frozen
    have gc:=KO3.out.cell
    go_wp2
    have K9:=qB (i:=2) (u:=.int .i64 0) (qB (i:=1) (u:=.int .i64 0) (qB (i:=0) (u:=.int .i64 0) KO3.out rfl) rfl) (cs':=#[.int .i64 0,.int .i64 0,.int .i64 0]) rfl
    have X9:=(qS (qS (qS X3.out (p:=⟨BO,0,none⟩) HLT.out (.int .i64 0)) (p:=⟨BO,1,none⟩) HLT.out (.int .i64 0)) (p:=⟨BO,2,none⟩) HLT.out (.int .i64 0))
    generalize (((w3.setCell ⟨BO,0,none⟩ (.int .i64 0)).setCell ⟨BO,1,none⟩ (.int .i64 0)).setCell ⟨BO,2,none⟩ (.int .i64 0))=Wf at *
    clear gz gc
    have rr0:Wf.cell? ⟨BO,0,none⟩=some (.int .i64 0):=K9.cell 0
    have rr1:Wf.cell? ⟨BO,1,none⟩=some (.int .i64 0):=K9.cell 1
    have rr2:Wf.cell? ⟨BO,2,none⟩=some (.int .i64 0):=K9.cell 2
    refine bodyPost_ret (v:=.tuple #[moveV ⟨0,0,0⟩,.int .i64 0,.int .i64 14]) ?_ rfl ?_
    ·simp [results,Tryz.results15,go_sem,rr0,rr1,rr2]
    ·exact⟨rfl,X9⟩
 ·rw [(bestE_one hz).1,(bestE_one hz).2]
  have t0:(perftE R P D != 0)=true:=by simpa using hz
  clear hz HRF
  generalize perftN R P D=N at *
  generalize perftE R P D=E at *
  go_enter Crz.func15,Tryz.ntmps15
  go_wp2_with fail
  refine(HT.out _ HX.out).mono ?_
  rintro e w2 ⟨rfl,x2⟩
  have X2:=hide (qT HX.out x2)
  have K4:=hide (K3.out.ext x2)
  clear f1 f2 x2
  generalize w.heap.size+1+1=BO at *
  have gz:=K4.out.frozen
  have gc:=K4.out.cell
  go_wp2
  have K9:=qB (i:=2) (u:=.int .i64 0) (qB (i:=1) (u:=.int .i64 0) (qB (i:=0) (u:=.int .i64 0) K4.out rfl) rfl) (cs':=#[.int .i64 0,.int .i64 0,.int .i64 0]) rfl
  have X9:=(qS (qS (qS X2.out (p:=⟨BO,0,none⟩) HLT.out (.int .i64 0)) (p:=⟨BO,1,none⟩) HLT.out (.int .i64 0)) (p:=⟨BO,2,none⟩) HLT.out (.int .i64 0))
  generalize (((w2.setCell ⟨BO,0,none⟩ (.int .i64 0)).setCell ⟨BO,1,none⟩ (.int .i64 0)).setCell ⟨BO,2,none⟩ (.int .i64 0))=Wf at *
  clear gz gc
  have rr0:Wf.cell? ⟨BO,0,none⟩=some (.int .i64 0):=K9.cell 0
  have rr1:Wf.cell? ⟨BO,1,none⟩=some (.int .i64 0):=K9.cell 1
  have rr2:Wf.cell? ⟨BO,2,none⟩=some (.int .i64 0):=K9.cell 2
  refine bodyPost_ret (v:=.tuple #[moveV ⟨0,0,0⟩,.int .i64 0,.int .i64 E]) ?_ rfl ?_
  ·simp [results,Tryz.results15,go_sem,rr0,rr1,rr2]
  ·exact⟨rfl,X9⟩
end Go.Proofs.YtdoibgmmijhlfaaGreat
