/- Deepen -/
import Derived.Test.YtdoibgmmijhlfaaGreatC36
namespace Go.Proofs.YtdoibgmmijhlfaaGreat
open Go.ChangeShapes Go.WideShapes Go.ChangeAt Go.RowKit Go.Shelf
set_option linter.unusedVariables false
set_option linter.unusedSimpArgs false
def runN(ok:Nat→Bool):Nat→Nat→Nat
 | 0,d=>d
 | f+1,d=>if ok (d+1) then runN ok f (d+1) else d
theorem runN_spec(ok:Nat→Bool):∀ f d,d≤runN ok f d∧runN ok f d≤d+f∧(∀ j,d<j→j≤runN ok f d→ok j=true)∧(runN ok f d=d+f∨ok (runN ok f d+1)=false)
 | 0,d=>⟨Nat.le_refl _,Nat.le_refl _,fun j h1 h2=>by rw [show runN ok 0 d=d from rfl] at h2;omega,.inl rfl⟩
 | f+1,d=>by
  unfold runN
  cases h:ok (d+1)
  ·simp only [Bool.false_eq_true,if_false]
   exact⟨Nat.le_refl _,by omega,fun j h1 h2=>by omega,.inr h⟩
  ·simp only [if_true]
   obtain⟨i1,i2,i3,i4⟩:=runN_spec ok f (d+1)
   refine⟨by omega,by omega,fun j h1 h2=>?_,i4.imp (fun h=>by omega) id⟩
   by_cases hj:j=d+1
   ·rw [hj];exact h
   ·exact i3 j (by omega) h2
def okD(R:RM)(P:PosM)(b:Int)(d:Nat):Bool:=perftE R P d == 0 && decide (perftN R P d≤b)
def deepN(R:RM)(P:PosM)(D b:Int):Nat:=runN (okD R P b) D.toNat 0
def deepE(R:RM)(P:PosM)(D b:Int):Int:=if checkE R P≠0 then checkE R P else if D<1∨12<D then 1 else if b<1∨50000<b then 4 else if rM R P≠0 then 14 else if deepN R P D b=0 then 17 else 0
def deepX(R:RM)(P:PosM)(D b:Int):(MM×Int)×Int×Int:=if deepE R P D b=0 then (firstM R (deepN R P D b-1) P,deepN R P D b,perftN R P (deepN R P D b)) else ((⟨0,0,0⟩,0),0,0)
def nodesD(R:RM)(P:PosM)(k:Nat):Int:=if k=0 then 0 else perftN R P k
theorem deep5{R:RM}{P:PosM}{D b:Int}(h:checkE R P=0)(hd:¬(D<1∨12<D))(hb:¬(b<1∨50000<b))(hr:rM R P=0)(hn:deepN R P D b=0):deepE R P D b=17∧deepX R P D b=((⟨0,0,0⟩,0),0,0):=by
 have e:deepE R P D b=17:=by unfold deepE;rw [if_neg (by simpa using h),if_neg hd,if_neg hb,if_neg (by simpa using hr),if_pos hn]
 exact⟨e,if_neg (by rw [e];decide)⟩
theorem deep6{R:RM}{P:PosM}{D b:Int}(h:checkE R P=0)(hd:¬(D<1∨12<D))(hb:¬(b<1∨50000<b))(hr:rM R P=0)(hn:deepN R P D b≠0):deepE R P D b=0∧deepX R P D b=(firstM R (deepN R P D b-1) P,((deepN R P D b:Nat):Int),perftN R P (deepN R P D b)):=by
 have e:deepE R P D b=0:=by unfold deepE;rw [if_neg (by simpa using h),if_neg hd,if_neg hb,if_neg (by simpa using hr),if_neg hn]
 exact⟨e,if_pos e⟩
abbrev deepV(x:(MM×Int)×Int×Int):Value:=.agg #[.int .i64 x.1.1.src,.int .i64 x.1.1.dst,.int .i64 x.1.1.piece,.int .i64 x.1.2,.int .i64 x.2.1,.int .i64 x.2.2]
set_option maxHeartbeats 4000000 in
set_option maxRecDepth 100000 in
theorem Deepen_run(R:RM)(P:PosM)(v u:Value)(D b:Int)(w:World)(hR:RA w v R)(hP:PA w u P)(h:checkE R P=0)(hd:¬(D<1∨12<D))(hb:¬(b<1∨50000<b))(hr:rM R P=0) :
  Calls Crz.prog 31 #[v,u,.int .i64 D,.int .i64 b] w fun e w'=>e=.returned (.tuple #[deepV (deepX R P D b),.int .i64 (deepE R P D b)])∧Ext w w':=by
 have HC:=hide (fun W (hW:Ext w W)=>PCheck_any R P v u W (hR.ext hW) (hP.ext hW))
 have HRS:=hide (fun W (hW:Ext w W)=>Result_any R P v u W (hR.ext hW) (hP.ext hW) (check_iff.1 h).1 (check_iff.1 h).2)
 have HT:=hide (fun (k:Nat) W (hW:Ext w W)=>PfTree_any R P v u k W (hR.ext hW) (hP.ext hW))
 have HF:=hide (fun (k:Nat) (hk:k<12) W (hW:Ext w W)=>first_any R (check_iff.1 h).1 k (by omega) P v u ((k:Int)+1) W rfl (check_iff.1 h).2 (hR.ext hW) (hP.ext hW))
 have HE5:=hide (deep5 h hd hb hr)
 have HE6:=hide (deep6 h hd hb hr)
 rw [hr] at HRS
 obtain⟨pA,pc,sA,sc,eA,ec,rfl,-⟩:=hR
 obtain⟨cA,cc,aA,ac,bA,bc,rfl,-⟩:=hP
 obtain⟨x1,k1,k2,k3⟩:=blks3 w #[.string R.name,.int .i64 R.width,.int .i64 R.height,.slice pA R.pieces.length pc,.slice sA R.start.length sc,.bool R.falls,.bool R.keeps,.slice eA R.ends.length ec,.int .i64 R.blocked,.int .i64 R.quiet,.int .i64 R.rept] 26 #[.slice cA P.cells.length cc,.slice aA P.hand0.length ac,.slice bA P.hand1.length bc,.int .i64 P.turn,.int .i64 P.quiet] 29 #[.int .i64 0,.int .i64 0,.int .i64 0,.int .i64 0,.int .i64 0,.int .i64 0] 62
 have HX:=hide x1
 have K1:=hide k1
 have K2:=hide k2
 have K3:=hide k3
 clear x1 k1 k2 k3
 have f1:=K1.out.cell
 have f2:=K2.out.cell
 have HLT:Hid (w.heap.size≤w.heap.size+1+1):=hide (by omega)
 rw [h] at HC
 have t0:decide (D<1)=false:=by simp;omega
 have t1:decide (12<D)=false:=by simp;omega
 have t2:decide (b<1)=false:=by simp;omega
 have t3:decide (50000<b)=false:=by simp;omega
 obtain⟨d,hdd⟩:=Int.eq_ofNat_of_zero_le (show 0≤D by omega)
 have hdd':D=(d:Int):=hdd
 have hd12:d≤12:=by omega
 have HDN:Hid (deepN R P D b=runN (okD R P b) d 0):=hide (by unfold deepN;rw [hdd'];rfl)
 have HOK:=hide (fun k=>(show okD R P b k=(perftE R P k == 0 && decide (perftN R P k≤b)) from rfl))
 have HND:=hide (fun k=>(show nodesD R P k=if k=0 then 0 else perftN R P k from rfl))
 have HDX:=hide hdd'
 have HD1:Hid (1≤d):=hide (by omega)
 clear h hd hb hr hdd hdd'
 generalize deepE R P D b=E at *
 generalize deepX R P D b=X at *
 generalize deepN R P D b=N at *
 generalize okD R P b=ok at *
 generalize nodesD R P=nd at *
 go_enter Crz.func31,Tryz.ntmps31
 go_wp2_with fail
 refine(HC.out _ HX.out).mono ?_
 rintro e w2 ⟨rfl,x2⟩
 have X2:=hide (qT HX.out x2)
 have KR2:=hide (K1.out.ext x2)
 have KP2:=hide (K2.out.ext x2)
 have K4:=hide (K3.out.ext x2)
 have g1:=(K1.out.ext x2).cell
 have g2:=(K2.out.ext x2).cell
 clear f1 f2 x2
 go_wp2_with fail
 refine(HRS.out _ X2.out).mono ?_
 rintro e w3 ⟨rfl,x3⟩
 have X3:=hide (qT X2.out x3)
 have KO3:=hide (K4.out.ext x3)
 have KR3:=hide (KR2.out.ext x3)
 have KP3:=hide (KP2.out.ext x3)
 clear g1 g2 x3 HRS HC
 generalize w.heap.size+1+1=BO at *
 have HN0:=hide (HND.out 0)
 go_wp2
 go_loopw [11,12,13] (fun be no dd wr=>∃ k:Nat,k≤d∧be=.int .i64 k∧no=.int .i64 (nd k)∧dd=.int .i64 ((k:Int)+1)∧Ext w3 wr∧Hid (runN ok (d-k) k=N)) (fun be _ _ _=>d-(intOf be).toNat)
 case atStart=>exact⟨0,Nat.zero_le _,rfl,by rw [HN0.out];rfl,rfl,Below.refl _ _,hide HDN.out.symm⟩
 case round =>
  obtain⟨k,hk,rfl,rfl,rfl,xr,hrun⟩:=hrel
  have XR:=hide xr
  clear xr
  by_cases hkd:k<d
  ·have HS:=hide (hrun.out.symm.trans (by rw [show d-k=(d-(k+1))+1 by omega];exact rfl:runN ok (d-k) k=if ok (k+1) then runN ok (d-(k+1)) (k+1) else k))
   have HOK2:=hide (HOK.out (k+1))
   have HND2:=hide (show nd (k+1)=perftN R P ((k+1:Nat):Int) from (HND.out (k+1)).trans (if_neg (by omega)))
   have HT2:=hide (fun W (hW:Ext w W)=>HT.out (k+1) W hW)
   rw [show ((k+1:Nat):Int)=(k:Int)+1 by push_cast;rfl] at HT2 HOK2 HND2
   generalize perftE R P ((k:Int)+1)=E1 at *
   generalize perftN R P ((k:Int)+1)=N1 at *
   have tle:decide ((k:Int)+1≤D)=true:=by have:=HDX.out;simp;omega
   have hwk:IntKind.i64.wrap ((k:Int)+1+1)=(k:Int)+1+1:=by rw [IntKind.wrap_i64];omega
   have f1:=(KR3.out.ext XR.out).cell
   have f2:=(KP3.out.ext XR.out).cell
   go_wp2_with fail
   refine(HT2.out _ (qT X3.out XR.out)).mono ?_
   rintro e w4 ⟨rfl,x4⟩
   have X4:=hide (qT XR.out x4)
   clear f1 f2 x4 HT2
   by_cases he:E1=0
   ·by_cases hn:N1≤b
    ·have HS2:Hid (N=runN ok (d-(k+1)) (k+1)):=hide (HS.out.trans (if_pos (by rw [HOK2.out];simp [he,hn])))
     have t6:decide (b<N1)=false:=by simp;omega
     clear hn HS HOK2
     subst he
     go_wp2
     go_roundw
     case rel=>exact⟨k+1,by omega,by go_num,by rw [HND2.out],by go_num,X4.out,hide HS2.out.symm⟩
     case measure=>simp [intOf];omega
    ·have HNK:Hid (N=k):=hide (HS.out.trans (if_neg (by rw [HOK2.out];simp [hn])))
     have t6:decide (b<N1)=true:=by simp;omega
     clear hn HS HOK2
     subst he
     by_cases hk0:k=0
     ·have H5:=hide (HE5.out (HNK.out.trans hk0))
      subst hk0
      have X2:=hide (qT X3.out X4.out)
      have K4:=hide (KO3.out.ext X4.out)
      have gz:=K4.out.frozen
      have gc:=K4.out.cell
      go_wp2
      have K9:=qB (i:=5) (u:=.int .i64 0) (qB (i:=4) (u:=.int .i64 0) (qB (i:=3) (u:=.int .i64 0) (qB (i:=2) (u:=.int .i64 0) (qB (i:=1) (u:=.int .i64 0) (qB (i:=0) (u:=.int .i64 0) K4.out rfl) rfl) rfl) rfl) rfl) (cs':=#[.int .i64 0,.int .i64 0,.int .i64 0,.int .i64 0,.int .i64 0,.int .i64 0]) rfl
      have X9:=(qS (qS (qS (qS (qS (qS X2.out (p:=⟨BO,0,none⟩) HLT.out (.int .i64 0)) (p:=⟨BO,1,none⟩) HLT.out (.int .i64 0)) (p:=⟨BO,2,none⟩) HLT.out (.int .i64 0)) (p:=⟨BO,3,none⟩) HLT.out (.int .i64 0)) (p:=⟨BO,4,none⟩) HLT.out (.int .i64 0)) (p:=⟨BO,5,none⟩) HLT.out (.int .i64 0))
      generalize ((((((w4.setCell ⟨BO,0,none⟩ (.int .i64 0)).setCell ⟨BO,1,none⟩ (.int .i64 0)).setCell ⟨BO,2,none⟩ (.int .i64 0)).setCell ⟨BO,3,none⟩ (.int .i64 0)).setCell ⟨BO,4,none⟩ (.int .i64 0)).setCell ⟨BO,5,none⟩ (.int .i64 0))=Wf at *
      clear gz gc
      have rr0:Wf.cell? ⟨BO,0,none⟩=some (.int .i64 0):=K9.cell 0
      have rr1:Wf.cell? ⟨BO,1,none⟩=some (.int .i64 0):=K9.cell 1
      have rr2:Wf.cell? ⟨BO,2,none⟩=some (.int .i64 0):=K9.cell 2
      have rr3:Wf.cell? ⟨BO,3,none⟩=some (.int .i64 0):=K9.cell 3
      have rr4:Wf.cell? ⟨BO,4,none⟩=some (.int .i64 0):=K9.cell 4
      have rr5:Wf.cell? ⟨BO,5,none⟩=some (.int .i64 0):=K9.cell 5
      refine bodyPost_ret (v:=.tuple #[deepV ((⟨0,0,0⟩,0),0,0),.int .i64 17]) ?_ rfl ?_
      ·simp [results,Tryz.results31,go_sem,rr0,rr1,rr2,rr3,rr4,rr5]
      ·exact⟨by rw [H5.out.1,H5.out.2],X9⟩
     ·have h6:=HE6.out (by rw [HNK.out];exact hk0)
      rw [HNK.out,← (HND.out k).trans (if_neg hk0)] at h6
      have HF2:=hide (fun W (hW:Ext w W)=>by
       have:=HF.out (k-1) (by omega) W hW
       rw [show ((k-1:Nat):Int)+1=(k:Int) by omega] at this
       exact this)
      have tk:((k:Int) == 0)=false:=by simpa using hk0
      generalize firstM R (k-1) P=y at *
      generalize nd k=nk at *
      have H6:=hide h6
      clear h6
      have f1:=(KR3.out.ext X4.out).cell
      have f2:=(KP3.out.ext X4.out).cell
      go_wp2_with fail
      refine(HF2.out _ (qT X3.out X4.out)).mono ?_
      rintro e w5 ⟨rfl,x5⟩
      clear f1 f2
      obtain⟨x6,k6⟩:=blks1 w5 #[.int .i64 y.1.src,.int .i64 y.1.dst,.int .i64 y.1.piece] 31
      go_upto_region 20 with fail
      have X6:=hide (qT X3.out (qT X4.out (qT x5 x6)))
      have KO6:=hide (((KO3.out.ext X4.out).ext x5).ext x6)
      have K6:=hide k6
      clear x5 x6 k6
      generalize w5.alloc _=w6 at *
      generalize w5.heap.size=BY at *
      have g5:=K6.out.cell
      have gz:=KO6.out.frozen
      have gc:=KO6.out.cell
      go_wp2
      have K9:=qB (i:=5) (u:=.int .i64 nk) (qB (i:=4) (u:=.int .i64 (k:Int)) (qB (i:=3) (u:=.int .i64 y.2) (qB (i:=2) (u:=.int .i64 y.1.piece) (qB (i:=1) (u:=.int .i64 y.1.dst) (qB (i:=0) (u:=.int .i64 y.1.src) KO6.out rfl) rfl) rfl) rfl) rfl) (cs':=#[.int .i64 y.1.src,.int .i64 y.1.dst,.int .i64 y.1.piece,.int .i64 y.2,.int .i64 (k:Int),.int .i64 nk]) rfl
      have X9:=(qS (qS (qS (qS (qS (qS X6.out (p:=⟨BO,0,none⟩) HLT.out (.int .i64 y.1.src)) (p:=⟨BO,1,none⟩) HLT.out (.int .i64 y.1.dst)) (p:=⟨BO,2,none⟩) HLT.out (.int .i64 y.1.piece)) (p:=⟨BO,3,none⟩) HLT.out (.int .i64 y.2)) (p:=⟨BO,4,none⟩) HLT.out (.int .i64 (k:Int))) (p:=⟨BO,5,none⟩) HLT.out (.int .i64 nk))
      generalize ((((((w6.setCell ⟨BO,0,none⟩ (.int .i64 y.1.src)).setCell ⟨BO,1,none⟩ (.int .i64 y.1.dst)).setCell ⟨BO,2,none⟩ (.int .i64 y.1.piece)).setCell ⟨BO,3,none⟩ (.int .i64 y.2)).setCell ⟨BO,4,none⟩ (.int .i64 (k:Int))).setCell ⟨BO,5,none⟩ (.int .i64 nk))=Wf at *
      clear gz gc
      have rr0:Wf.cell? ⟨BO,0,none⟩=some (.int .i64 y.1.src):=K9.cell 0
      have rr1:Wf.cell? ⟨BO,1,none⟩=some (.int .i64 y.1.dst):=K9.cell 1
      have rr2:Wf.cell? ⟨BO,2,none⟩=some (.int .i64 y.1.piece):=K9.cell 2
      have rr3:Wf.cell? ⟨BO,3,none⟩=some (.int .i64 y.2):=K9.cell 3
      have rr4:Wf.cell? ⟨BO,4,none⟩=some (.int .i64 (k:Int)):=K9.cell 4
      have rr5:Wf.cell? ⟨BO,5,none⟩=some (.int .i64 nk):=K9.cell 5
      refine bodyPost_ret (v:=.tuple #[deepV (y,k,nk),.int .i64 0]) ?_ rfl ?_
      ·simp [results,Tryz.results31,go_sem,rr0,rr1,rr2,rr3,rr4,rr5]
      ·exact⟨by rw [H6.out.1,H6.out.2],X9⟩
   ·have HNK:Hid (N=k):=hide (HS.out.trans (if_neg (by rw [HOK2.out];simp [he])))
    have t5:(E1 != 0)=true:=by simpa using he
    clear he HS HOK2
    by_cases hk0:k=0
    ·have H5:=hide (HE5.out (HNK.out.trans hk0))
     subst hk0
     have X2:=hide (qT X3.out X4.out)
     have K4:=hide (KO3.out.ext X4.out)
     have gz:=K4.out.frozen
     have gc:=K4.out.cell
     go_wp2
     have K9:=qB (i:=5) (u:=.int .i64 0) (qB (i:=4) (u:=.int .i64 0) (qB (i:=3) (u:=.int .i64 0) (qB (i:=2) (u:=.int .i64 0) (qB (i:=1) (u:=.int .i64 0) (qB (i:=0) (u:=.int .i64 0) K4.out rfl) rfl) rfl) rfl) rfl) (cs':=#[.int .i64 0,.int .i64 0,.int .i64 0,.int .i64 0,.int .i64 0,.int .i64 0]) rfl
     have X9:=(qS (qS (qS (qS (qS (qS X2.out (p:=⟨BO,0,none⟩) HLT.out (.int .i64 0)) (p:=⟨BO,1,none⟩) HLT.out (.int .i64 0)) (p:=⟨BO,2,none⟩) HLT.out (.int .i64 0)) (p:=⟨BO,3,none⟩) HLT.out (.int .i64 0)) (p:=⟨BO,4,none⟩) HLT.out (.int .i64 0)) (p:=⟨BO,5,none⟩) HLT.out (.int .i64 0))
     generalize ((((((w4.setCell ⟨BO,0,none⟩ (.int .i64 0)).setCell ⟨BO,1,none⟩ (.int .i64 0)).setCell ⟨BO,2,none⟩ (.int .i64 0)).setCell ⟨BO,3,none⟩ (.int .i64 0)).setCell ⟨BO,4,none⟩ (.int .i64 0)).setCell ⟨BO,5,none⟩ (.int .i64 0))=Wf at *
     clear gz gc
     have rr0:Wf.cell? ⟨BO,0,none⟩=some (.int .i64 0):=K9.cell 0
     have rr1:Wf.cell? ⟨BO,1,none⟩=some (.int .i64 0):=K9.cell 1
     have rr2:Wf.cell? ⟨BO,2,none⟩=some (.int .i64 0):=K9.cell 2
     have rr3:Wf.cell? ⟨BO,3,none⟩=some (.int .i64 0):=K9.cell 3
     have rr4:Wf.cell? ⟨BO,4,none⟩=some (.int .i64 0):=K9.cell 4
     have rr5:Wf.cell? ⟨BO,5,none⟩=some (.int .i64 0):=K9.cell 5
     refine bodyPost_ret (v:=.tuple #[deepV ((⟨0,0,0⟩,0),0,0),.int .i64 17]) ?_ rfl ?_
     ·simp [results,Tryz.results31,go_sem,rr0,rr1,rr2,rr3,rr4,rr5]
     ·exact⟨by rw [H5.out.1,H5.out.2],X9⟩
    ·have h6:=HE6.out (by rw [HNK.out];exact hk0)
     rw [HNK.out,← (HND.out k).trans (if_neg hk0)] at h6
     have HF2:=hide (fun W (hW:Ext w W)=>by
      have:=HF.out (k-1) (by omega) W hW
      rw [show ((k-1:Nat):Int)+1=(k:Int) by omega] at this
      exact this)
     have tk:((k:Int) == 0)=false:=by simpa using hk0
     generalize firstM R (k-1) P=y at *
     generalize nd k=nk at *
     have H6:=hide h6
     clear h6
     have f1:=(KR3.out.ext X4.out).cell
     have f2:=(KP3.out.ext X4.out).cell
     go_wp2_with fail
     refine(HF2.out _ (qT X3.out X4.out)).mono ?_
     rintro e w5 ⟨rfl,x5⟩
     clear f1 f2
     obtain⟨x6,k6⟩:=blks1 w5 #[.int .i64 y.1.src,.int .i64 y.1.dst,.int .i64 y.1.piece] 31
     go_upto_region 20 with fail
     have X6:=hide (qT X3.out (qT X4.out (qT x5 x6)))
     have KO6:=hide (((KO3.out.ext X4.out).ext x5).ext x6)
     have K6:=hide k6
     clear x5 x6 k6
     generalize w5.alloc _=w6 at *
     generalize w5.heap.size=BY at *
     have g5:=K6.out.cell
     have gz:=KO6.out.frozen
     have gc:=KO6.out.cell
     go_wp2
     have K9:=qB (i:=5) (u:=.int .i64 nk) (qB (i:=4) (u:=.int .i64 (k:Int)) (qB (i:=3) (u:=.int .i64 y.2) (qB (i:=2) (u:=.int .i64 y.1.piece) (qB (i:=1) (u:=.int .i64 y.1.dst) (qB (i:=0) (u:=.int .i64 y.1.src) KO6.out rfl) rfl) rfl) rfl) rfl) (cs':=#[.int .i64 y.1.src,.int .i64 y.1.dst,.int .i64 y.1.piece,.int .i64 y.2,.int .i64 (k:Int),.int .i64 nk]) rfl
     have X9:=(qS (qS (qS (qS (qS (qS X6.out (p:=⟨BO,0,none⟩) HLT.out (.int .i64 y.1.src)) (p:=⟨BO,1,none⟩) HLT.out (.int .i64 y.1.dst)) (p:=⟨BO,2,none⟩) HLT.out (.int .i64 y.1.piece)) (p:=⟨BO,3,none⟩) HLT.out (.int .i64 y.2)) (p:=⟨BO,4,none⟩) HLT.out (.int .i64 (k:Int))) (p:=⟨BO,5,none⟩) HLT.out (.int .i64 nk))
     generalize ((((((w6.setCell ⟨BO,0,none⟩ (.int .i64 y.1.src)).setCell ⟨BO,1,none⟩ (.int .i64 y.1.dst)).setCell ⟨BO,2,none⟩ (.int .i64 y.1.piece)).setCell ⟨BO,3,none⟩ (.int .i64 y.2)).setCell ⟨BO,4,none⟩ (.int .i64 (k:Int))).setCell ⟨BO,5,none⟩ (.int .i64 nk))=Wf at *
     clear gz gc
     have rr0:Wf.cell? ⟨BO,0,none⟩=some (.int .i64 y.1.src):=K9.cell 0
     have rr1:Wf.cell? ⟨BO,1,none⟩=some (.int .i64 y.1.dst):=K9.cell 1
     have rr2:Wf.cell? ⟨BO,2,none⟩=some (.int .i64 y.1.piece):=K9.cell 2
     have rr3:Wf.cell? ⟨BO,3,none⟩=some (.int .i64 y.2):=K9.cell 3
     have rr4:Wf.cell? ⟨BO,4,none⟩=some (.int .i64 (k:Int)):=K9.cell 4
     have rr5:Wf.cell? ⟨BO,5,none⟩=some (.int .i64 nk):=K9.cell 5
     refine bodyPost_ret (v:=.tuple #[deepV (y,k,nk),.int .i64 0]) ?_ rfl ?_
     ·simp [results,Tryz.results31,go_sem,rr0,rr1,rr2,rr3,rr4,rr5]
     ·exact⟨by rw [H6.out.1,H6.out.2],X9⟩
  ·obtain rfl:k=d:=by omega
   have HNK:Hid (N=k):=hide (by rw [← hrun.out,Nat.sub_self];rfl)
   have tle:decide ((k:Int)+1≤D)=false:=by have:=HDX.out;simp;omega
   have X4:=XR
   by_cases hk0:k=0
   ·exfalso;have:=HD1.out;omega
   ·have h6:=HE6.out (by rw [HNK.out];exact hk0)
    rw [HNK.out,← (HND.out k).trans (if_neg hk0)] at h6
    have HF2:=hide (fun W (hW:Ext w W)=>by
     have:=HF.out (k-1) (by omega) W hW
     rw [show ((k-1:Nat):Int)+1=(k:Int) by omega] at this
     exact this)
    have tk:((k:Int) == 0)=false:=by simpa using hk0
    generalize firstM R (k-1) P=y at *
    generalize nd k=nk at *
    have H6:=hide h6
    clear h6
    have f1:=(KR3.out.ext X4.out).cell
    have f2:=(KP3.out.ext X4.out).cell
    go_wp2_with fail
    refine(HF2.out _ (qT X3.out X4.out)).mono ?_
    rintro e w5 ⟨rfl,x5⟩
    clear f1 f2
    obtain⟨x6,k6⟩:=blks1 w5 #[.int .i64 y.1.src,.int .i64 y.1.dst,.int .i64 y.1.piece] 31
    go_upto_region 20 with fail
    have X6:=hide (qT X3.out (qT X4.out (qT x5 x6)))
    have KO6:=hide (((KO3.out.ext X4.out).ext x5).ext x6)
    have K6:=hide k6
    clear x5 x6 k6
    generalize w5.alloc _=w6 at *
    generalize w5.heap.size=BY at *
    have g5:=K6.out.cell
    have gz:=KO6.out.frozen
    have gc:=KO6.out.cell
    go_wp2
    have K9:=qB (i:=5) (u:=.int .i64 nk) (qB (i:=4) (u:=.int .i64 (k:Int)) (qB (i:=3) (u:=.int .i64 y.2) (qB (i:=2) (u:=.int .i64 y.1.piece) (qB (i:=1) (u:=.int .i64 y.1.dst) (qB (i:=0) (u:=.int .i64 y.1.src) KO6.out rfl) rfl) rfl) rfl) rfl) (cs':=#[.int .i64 y.1.src,.int .i64 y.1.dst,.int .i64 y.1.piece,.int .i64 y.2,.int .i64 (k:Int),.int .i64 nk]) rfl
    have X9:=(qS (qS (qS (qS (qS (qS X6.out (p:=⟨BO,0,none⟩) HLT.out (.int .i64 y.1.src)) (p:=⟨BO,1,none⟩) HLT.out (.int .i64 y.1.dst)) (p:=⟨BO,2,none⟩) HLT.out (.int .i64 y.1.piece)) (p:=⟨BO,3,none⟩) HLT.out (.int .i64 y.2)) (p:=⟨BO,4,none⟩) HLT.out (.int .i64 (k:Int))) (p:=⟨BO,5,none⟩) HLT.out (.int .i64 nk))
    generalize ((((((w6.setCell ⟨BO,0,none⟩ (.int .i64 y.1.src)).setCell ⟨BO,1,none⟩ (.int .i64 y.1.dst)).setCell ⟨BO,2,none⟩ (.int .i64 y.1.piece)).setCell ⟨BO,3,none⟩ (.int .i64 y.2)).setCell ⟨BO,4,none⟩ (.int .i64 (k:Int))).setCell ⟨BO,5,none⟩ (.int .i64 nk))=Wf at *
    clear gz gc
    have rr0:Wf.cell? ⟨BO,0,none⟩=some (.int .i64 y.1.src):=K9.cell 0
    have rr1:Wf.cell? ⟨BO,1,none⟩=some (.int .i64 y.1.dst):=K9.cell 1
    have rr2:Wf.cell? ⟨BO,2,none⟩=some (.int .i64 y.1.piece):=K9.cell 2
    have rr3:Wf.cell? ⟨BO,3,none⟩=some (.int .i64 y.2):=K9.cell 3
    have rr4:Wf.cell? ⟨BO,4,none⟩=some (.int .i64 (k:Int)):=K9.cell 4
    have rr5:Wf.cell? ⟨BO,5,none⟩=some (.int .i64 nk):=K9.cell 5
    refine bodyPost_ret (v:=.tuple #[deepV (y,k,nk),.int .i64 0]) ?_ rfl ?_
    ·simp [results,Tryz.results31,go_sem,rr0,rr1,rr2,rr3,rr4,rr5]
    ·exact⟨by rw [H6.out.1,H6.out.2],X9⟩
end Go.Proofs.YtdoibgmmijhlfaaGreat
