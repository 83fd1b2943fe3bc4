/- MakeA1 MakeK1 -/
import Derived.Test.YtdoibgmmijhlfaaGreatC24
import Derived.BigFrame
namespace Go.Proofs.YtdoibgmmijhlfaaGreat
open Go.ChangeShapes Go.WideShapes Go.ChangeAt Go.RowKit Go.Shelf
set_option linter.unusedVariables false
attribute [local go_sem ↓] Go.wp_at_zero Go.wp_at_succ
set_option maxHeartbeats 4000000 in
set_option maxRecDepth 100000 in
theorem make_put1(R:RM)(P:PosM)(v u:Value)(d q:Nat)(w:World)(hR:RA w v R)(hP:PA w u P)(hV:Valid R)(hS:Sound R P)(hT:P.turn=1)(hm:CanPut R P d q) :
  Calls Crz.prog 39 #[v,u,.agg #[.int .i64 (-1),.int .i64 (d:Int),.int .i64 (q:Int)]] w (MakePost w (makeM R P ⟨-1,d,q⟩)):=by
 have har:=area_bd _ _ hV.side
 have ha:=hS.area
 have hp0:=hV.pieces0
 have hp6:=hV.pieces6
 have hl0:=hS.len0
 have hl1:=hS.len1
 have h64:P.cells.length≤64:=by omega
 have HCP:=hide (fun W (hW:Ext w W)=>PCopy_any P u W (hP.ext hW) (by omega) (by omega) (by omega) (by omega) (by omega) (by omega))
 have hq0:=hS.quiet
 have HS:=hide hS
 have HT:=hide hT
 obtain⟨hd,hq,hz⟩:=hm
 have HM:Hid (makeM R P ⟨-1,d,q⟩={ cells:=P.cells.set d (2 * (q:Int)+1+1),hand0:=P.hand0,hand1:=P.hand1.set q (P.hand1.getD q 0-1),turn:=0,quiet:=0 }):=hide (by
  unfold makeM
  simp only [hz,hT,PosM.hand,setHand,Int.toNat_natCast]
  simp)
 generalize makeM R P ⟨-1,d,q⟩=Q at *
 obtain⟨pA,pc,sA,sc,eA,ec,rfl,-⟩:=hR
 obtain⟨cA,cc,aA,ac,bA,bc,rfl,-⟩:=hP
 rw [hT] at HCP ⊢
 have hp6':=hp6
 have hqh:q<P.hand1.length:=by omega
 have hzb:0≤P.cells.getD d 0∧P.cells.getD d 0≤12:=by have:=HS.out.cells (P.cells.getD d 0) (by simp [hd]);omega
 have hhb:∀ i,i<P.hand1.length→0≤P.hand1.getD i 0∧P.hand1.getD i 0≤1000:=fun i hi=>HS.out.held1 _ (by simp [hi])
 have hhq:=hhb q hqh
 have HHB:=hide hhb
 clear har ha hp0 hp6 hl0 hl1 hV hS hT hhb
 obtain⟨xa,k1,k2,k3,k4⟩:=blks4 w #[.string R.name,.int .i64 R.width,.int .i64 R.height,.slice pA R.pieces.length pc,.slice sA R.start.length sc,.bool R.falls,.bool R.keeps,.slice eA R.ends.length ec,.int .i64 R.blocked,.int .i64 R.quiet,.int .i64 R.rept] 26 #[.slice cA P.cells.length cc,.slice aA P.hand0.length ac,.slice bA P.hand1.length bc,.int .i64 1,.int .i64 P.quiet] 29 #[.int .i64 (-1),.int .i64 (d:Int),.int .i64 (q:Int)] 31 #[.slice none 0 0,.slice none 0 0,.slice none 0 0,.int .i64 0,.int .i64 0] 29
 have X0:=hide xa
 clear xa
 have f2:=k2.cell
 go_enter Crz.func39,Tryz.ntmps39
 go_wp2_with fail
 generalize ((((w.alloc _).alloc _).alloc _).alloc _)=w2 at *
 have hb34:w.heap.size+1+1<w.heap.size+1+1+1:=by omega
 have hb4:w.heap.size≤w.heap.size+1+1+1:=by omega
 have hb24:w.heap.size+1<w.heap.size+1+1+1:=by omega
 generalize w.heap.size+1+1+1=B4 at *
 generalize w.heap.size+1+1=B3 at *
 generalize w.heap.size+1=B2 at *
 generalize hB1:w.heap.size=B1 at *
 have HB1:=hide hB1
 clear hB1
 refine(HCP.out _ X0.out).mono ?_
 rintro e w3 ⟨v3,rfl,⟨g0,c0,g1,c1,g2,c2,rfl,q0,q1,q2,r0,r1,r2,m0,m1,m2⟩,x3⟩
 rw [HT.out]
 have hw2:B4<w2.heap.size:=k4.lt
 have hw3:=x3.size
 have hn1:=r0.lt
 have hn2:=r1.lt
 have hn3:=r2.lt
 have l1:=(k1.ext x3).alloc (.cells #[.slice (some ⟨g0,0,none⟩) P.cells.length c0,.slice (some ⟨g1,0,none⟩) P.hand0.length c1,.slice (some ⟨g2,0,none⟩) P.hand1.length c2,.int .i64 1,.int .i64 P.quiet] 29)
 have l2:=(k2.ext x3).alloc (.cells #[.slice (some ⟨g0,0,none⟩) P.cells.length c0,.slice (some ⟨g1,0,none⟩) P.hand0.length c1,.slice (some ⟨g2,0,none⟩) P.hand1.length c2,.int .i64 1,.int .i64 P.quiet] 29)
 have l3:=(k3.ext x3).alloc (.cells #[.slice (some ⟨g0,0,none⟩) P.cells.length c0,.slice (some ⟨g1,0,none⟩) P.hand0.length c1,.slice (some ⟨g2,0,none⟩) P.hand1.length c2,.int .i64 1,.int .i64 P.quiet] 29)
 have l4:=(k4.ext x3).alloc (.cells #[.slice (some ⟨g0,0,none⟩) P.cells.length c0,.slice (some ⟨g1,0,none⟩) P.hand0.length c1,.slice (some ⟨g2,0,none⟩) P.hand1.length c2,.int .i64 1,.int .i64 P.quiet] 29)
 have l5:=Blk.new w3 29 #[.slice (some ⟨g0,0,none⟩) P.cells.length c0,.slice (some ⟨g1,0,none⟩) P.hand0.length c1,.slice (some ⟨g2,0,none⟩) P.hand1.length c2,.int .i64 1,.int .i64 P.quiet]
 have s0:=r0.alloc (.cells #[.slice (some ⟨g0,0,none⟩) P.cells.length c0,.slice (some ⟨g1,0,none⟩) P.hand0.length c1,.slice (some ⟨g2,0,none⟩) P.hand1.length c2,.int .i64 1,.int .i64 P.quiet] 29)
 have s1:=r1.alloc (.cells #[.slice (some ⟨g0,0,none⟩) P.cells.length c0,.slice (some ⟨g1,0,none⟩) P.hand0.length c1,.slice (some ⟨g2,0,none⟩) P.hand1.length c2,.int .i64 1,.int .i64 P.quiet] 29)
 have s2:=r2.alloc (.cells #[.slice (some ⟨g0,0,none⟩) P.cells.length c0,.slice (some ⟨g1,0,none⟩) P.hand0.length c1,.slice (some ⟨g2,0,none⟩) P.hand1.length c2,.int .i64 1,.int .i64 P.quiet] 29)
 have X3:=hide (qA (qT X0.out x3) (.cells #[.slice (some ⟨g0,0,none⟩) P.cells.length c0,.slice (some ⟨g1,0,none⟩) P.hand0.length c1,.slice (some ⟨g2,0,none⟩) P.hand1.length c2,.int .i64 1,.int .i64 P.quiet] 29))
 clear x3 k1 k2 k3 k4 f2 r0 r1 r2 HCP
 have hB5:B4<w3.heap.size:=by omega
 have NB2:∀ x,B4<x→¬ B2=x:=fun x hx=>by omega
 have hB5':B1≤w3.heap.size:=by omega
 have e5:=l5.cell
 have e3:=l3.cell
 have e2:=l2.cell
 have p0d:=s0.cell hd
 generalize P.cells.getD d 0=z at *
 subst hz
 go_wp2
 generalize w3.alloc _=w4 at *
 have hlB:B1≤w3.heap.size:=hB5'
 have N:Hid (B1≤B4∧B4<g0∧g0<g1∧g1<g2∧g2<w3.heap.size):=hide (by omega)
 generalize w3.heap.size=B5 at *
 have n1:¬ B5=g0:=by have:=N.out;omega
 have n2:¬ B5=g2:=by have:=N.out;omega
 have n3:¬ g0=B5:=by have:=N.out;omega
 have n4:¬ g2=B5:=by have:=N.out;omega
 have n5:¬ g0=g2:=by have:=N.out;omega
 have n6:¬ g2=g0:=by have:=N.out;omega
 have n7:¬ B4=B5:=by have:=N.out;omega
 have n8:¬ B5=B4:=by have:=N.out;omega
 have n9:¬ B4=g0:=by have:=N.out;omega
 have n10:¬ B4=g2:=by have:=N.out;omega
 have n11:¬ g0=B4:=by have:=N.out;omega
 have n12:¬ g2=B4:=by have:=N.out;omega
 have n13:¬ B2=g0:=NB2 g0 (by have:=N.out;omega)
 have n14:¬ B2=g2:=NB2 g2 (by have:=N.out;omega)
 have n15:¬ B3=g0:=by have:=N.out;omega
 have n16:¬ B3=g2:=by have:=N.out;omega
 have n17:¬ B2=B5:=NB2 B5 (by have:=N.out;omega)
 have n18:¬ B3=B5:=by have:=N.out;omega
 have ph:=s2.cell hqh
 have pf:=s2.frozen
 have p0f:=s0.frozen
 have e4:=l4.cell
 have f4:=l4.frozen
 have f5:=l5.frozen
 have i0:(0:Int)≤(q:Int):=by omega
 have i1:(q:Int)<(P.hand1.length:Int):=by omega
 generalize hh:P.hand1.getD q 0=h at *
 have HH:=hide hh
 clear hh
 obtain⟨hh0,hh1⟩:=hhq
 have hq6:(q:Int)≤6:=by omega
 have hmin:∀ W ats ty a b,(Builtin.min_ ats ty #[.int .i64 a,.int .i64 b]).run Crz.prog W=.ok (.int .i64 (minI a b)) W:=run_min2
 go_still_tail 11,(by kernel_rfl)
 go_upto_region 7 with (fail)
 have L2:=((l2.far (p:=⟨g2,q,none⟩) n14 (.int .i64 (h-1))).far (p:=⟨g0,d,none⟩) n13 (.int .i64 (2 * (q:Int)+1+1))).drew
 have L3:=((l3.far (p:=⟨g2,q,none⟩) n16 (.int .i64 (h-1))).far (p:=⟨g0,d,none⟩) n15 (.int .i64 (2 * (q:Int)+1+1))).drew
 have L4:=((l4.far (p:=⟨g2,q,none⟩) n10 (.int .i64 (h-1))).far (p:=⟨g0,d,none⟩) n9 (.int .i64 (2 * (q:Int)+1+1))).drew
 have L5:=((l5.far (p:=⟨g2,q,none⟩) n2 (.int .i64 (h-1))).far (p:=⟨g0,d,none⟩) n1 (.int .i64 (2 * (q:Int)+1+1))).drew
 have S0:=((s0.far (p:=⟨g2,q,none⟩) n5 (.int .i64 (h-1))).set_ d (2 * (q:Int)+1+1)).drew
 have S2:=((s2.set_ q (h-1)).far (p:=⟨g0,d,none⟩) n6 (.int .i64 (2 * (q:Int)+1+1))).drew
 have S1:=((s1.far (p:=⟨g2,q,none⟩) (by have:=N.out;show g1≠g2;omega) (.int .i64 (h-1))).far (p:=⟨g0,d,none⟩) (by have:=N.out;show g1≠g0;omega) (.int .i64 (2 * (q:Int)+1+1))).drew
 have X5:=hide (Below.drew (qS (qS X3.out (p:=⟨g2,q,none⟩) (by rw [HB1.out];have:=N.out;show B1≤g2;omega) (.int .i64 (h-1))) (p:=⟨g0,d,none⟩) (by rw [HB1.out];have:=N.out;show B1≤g0;omega) (.int .i64 (2 * (q:Int)+1+1))))
 clear e5 e4 e3 e2 f4 f5 l1 l2 l3 l4 l5 s0 s1 s2 ph pf p0f p0d
 generalize (((w4.setCell ⟨g2,q,none⟩ (.int .i64 (h-1))).setCell ⟨g0,d,none⟩ (.int .i64 (2 * (q:Int)+1+1))).drew)=w5 at *
 have e5:=L5.cell
 have e4:=L4.cell
 have e3:=L3.cell
 have e2:=L2.cell
 have f4:=L4.frozen
 have f5:=L5.frozen
 have hq1:=hq0.1
 have hq2:=hq0.2
 clear hq0
 go_wp2
 have hxB5:w.heap.size≤B5:=by rw [HB1.out];exact hlB
 have hxB4:w.heap.size≤B4:=by rw [HB1.out];exact N.out.1
 have K:=blk_set5 (Blk.far (Blk.far (Blk.far L4 (p:=⟨B5,4,none⟩) n7 (.int .i64 (minI (P.quiet+1) 200))) (p:=⟨B5,4,none⟩) n7 (.int .i64 0)) (p:=⟨B5,3,none⟩) n7 (.int .i64 0)) (u0:=.slice (some ⟨g0,0,none⟩) P.cells.length c0) (u1:=.slice (some ⟨g1,0,none⟩) P.hand0.length c1) (u2:=.slice (some ⟨g2,0,none⟩) P.hand1.length c2) (u3:=.int .i64 0) (u4:=.int .i64 0)
 have E0:=(IRow.far (IRow.far (IRow.far (IRow.far (IRow.far (IRow.far (IRow.far (IRow.far S0 (p:=⟨B5,4,none⟩) (by have:=N.out;show g0≠B5;omega) (.int .i64 (minI (P.quiet+1) 200))) (p:=⟨B5,4,none⟩) (by have:=N.out;show g0≠B5;omega) (.int .i64 0)) (p:=⟨B5,3,none⟩) (by have:=N.out;show g0≠B5;omega) (.int .i64 0)) (p:=⟨B4,0,none⟩) (by have:=N.out;show g0≠B4;omega) (.slice (some ⟨g0,0,none⟩) P.cells.length c0)) (p:=⟨B4,1,none⟩) (by have:=N.out;show g0≠B4;omega) (.slice (some ⟨g1,0,none⟩) P.hand0.length c1)) (p:=⟨B4,2,none⟩) (by have:=N.out;show g0≠B4;omega) (.slice (some ⟨g2,0,none⟩) P.hand1.length c2)) (p:=⟨B4,3,none⟩) (by have:=N.out;show g0≠B4;omega) (.int .i64 0)) (p:=⟨B4,4,none⟩) (by have:=N.out;show g0≠B4;omega) (.int .i64 0))
 have E1:=(IRow.far (IRow.far (IRow.far (IRow.far (IRow.far (IRow.far (IRow.far (IRow.far S1 (p:=⟨B5,4,none⟩) (by have:=N.out;show g1≠B5;omega) (.int .i64 (minI (P.quiet+1) 200))) (p:=⟨B5,4,none⟩) (by have:=N.out;show g1≠B5;omega) (.int .i64 0)) (p:=⟨B5,3,none⟩) (by have:=N.out;show g1≠B5;omega) (.int .i64 0)) (p:=⟨B4,0,none⟩) (by have:=N.out;show g1≠B4;omega) (.slice (some ⟨g0,0,none⟩) P.cells.length c0)) (p:=⟨B4,1,none⟩) (by have:=N.out;show g1≠B4;omega) (.slice (some ⟨g1,0,none⟩) P.hand0.length c1)) (p:=⟨B4,2,none⟩) (by have:=N.out;show g1≠B4;omega) (.slice (some ⟨g2,0,none⟩) P.hand1.length c2)) (p:=⟨B4,3,none⟩) (by have:=N.out;show g1≠B4;omega) (.int .i64 0)) (p:=⟨B4,4,none⟩) (by have:=N.out;show g1≠B4;omega) (.int .i64 0))
 have E2:=(IRow.far (IRow.far (IRow.far (IRow.far (IRow.far (IRow.far (IRow.far (IRow.far S2 (p:=⟨B5,4,none⟩) (by have:=N.out;show g2≠B5;omega) (.int .i64 (minI (P.quiet+1) 200))) (p:=⟨B5,4,none⟩) (by have:=N.out;show g2≠B5;omega) (.int .i64 0)) (p:=⟨B5,3,none⟩) (by have:=N.out;show g2≠B5;omega) (.int .i64 0)) (p:=⟨B4,0,none⟩) (by have:=N.out;show g2≠B4;omega) (.slice (some ⟨g0,0,none⟩) P.cells.length c0)) (p:=⟨B4,1,none⟩) (by have:=N.out;show g2≠B4;omega) (.slice (some ⟨g1,0,none⟩) P.hand0.length c1)) (p:=⟨B4,2,none⟩) (by have:=N.out;show g2≠B4;omega) (.slice (some ⟨g2,0,none⟩) P.hand1.length c2)) (p:=⟨B4,3,none⟩) (by have:=N.out;show g2≠B4;omega) (.int .i64 0)) (p:=⟨B4,4,none⟩) (by have:=N.out;show g2≠B4;omega) (.int .i64 0))
 have X:=hide (qS (qS (qS (qS (qS (qS (qS (qS X5.out (p:=⟨B5,4,none⟩) hxB5 (.int .i64 (minI (P.quiet+1) 200))) (p:=⟨B5,4,none⟩) hxB5 (.int .i64 0)) (p:=⟨B5,3,none⟩) hxB5 (.int .i64 0)) (p:=⟨B4,0,none⟩) hxB4 (.slice (some ⟨g0,0,none⟩) P.cells.length c0)) (p:=⟨B4,1,none⟩) hxB4 (.slice (some ⟨g1,0,none⟩) P.hand0.length c1)) (p:=⟨B4,2,none⟩) hxB4 (.slice (some ⟨g2,0,none⟩) P.hand1.length c2)) (p:=⟨B4,3,none⟩) hxB4 (.int .i64 0)) (p:=⟨B4,4,none⟩) hxB4 (.int .i64 0))
 clear e5 e4 e3 e2 f4 f5 L2 L3 L4 L5 S0 S1 S2
 generalize ((((((((w5.setCell ⟨B5,4,none⟩ (.int .i64 (minI (P.quiet+1) 200))).setCell ⟨B5,4,none⟩ (.int .i64 0)).setCell ⟨B5,3,none⟩ (.int .i64 0)).setCell ⟨B4,0,none⟩ (.slice (some ⟨g0,0,none⟩) P.cells.length c0)).setCell ⟨B4,1,none⟩ (.slice (some ⟨g1,0,none⟩) P.hand0.length c1)).setCell ⟨B4,2,none⟩ (.slice (some ⟨g2,0,none⟩) P.hand1.length c2)).setCell ⟨B4,3,none⟩ (.int .i64 0)).setCell ⟨B4,4,none⟩ (.int .i64 0))=Wf at *
 have rr0:Wf.cell? ⟨B4,0,none⟩=some (.slice (some ⟨g0,0,none⟩) P.cells.length c0):=K.cell 0
 have rr1:Wf.cell? ⟨B4,1,none⟩=some (.slice (some ⟨g1,0,none⟩) P.hand0.length c1):=K.cell 1
 have rr2:Wf.cell? ⟨B4,2,none⟩=some (.slice (some ⟨g2,0,none⟩) P.hand1.length c2):=K.cell 2
 have rr3:Wf.cell? ⟨B4,3,none⟩=some (.int .i64 0):=K.cell 3
 have rr4:Wf.cell? ⟨B4,4,none⟩=some (.int .i64 0):=K.cell 4
 refine bodyPost_ret (v:=.agg #[.slice (some ⟨g0,0,none⟩) P.cells.length c0,.slice (some ⟨g1,0,none⟩) P.hand0.length c1,.slice (some ⟨g2,0,none⟩) P.hand1.length c2,.int .i64 0,.int .i64 0]) ?_ rfl ?_
 ·simp [results,Tryz.results39,go_sem,rr0,rr1,rr2,rr3,rr4]
 ·refine⟨_,rfl,?_,X.out⟩
  rw [HM.out]
  refine⟨g0,c0,g1,c1,g2,c2,by simp,by rw [HB1.out];have:=N.out;omega,q1,q2,by simpa using E0,by simpa [HH.out] using E1,by simpa [HH.out] using E2,by simpa using m0,by simpa using m1,by simpa using m2⟩
end Go.Proofs.YtdoibgmmijhlfaaGreat
namespace Go.Proofs.YtdoibgmmijhlfaaGreat
open Go.ChangeShapes Go.WideShapes Go.ChangeAt Go.RowKit Go.Shelf
set_option linter.unusedVariables false
set_option maxHeartbeats 4000000 in
set_option maxRecDepth 100000 in
theorem make_keep1(R:RM)(P:PosM)(v u:Value)(s:Nat)(d q:Nat)(w:World)(hR:RA w v R)(hP:PA w u P)(hV:Valid R)(hS:Sound R P)(hT:P.turn=1)(hm:CanStep R P s d q)(hz:0<P.cells.getD d 0)(hkp:R.keeps=true) :
  Calls Crz.prog 39 #[v,u,.agg #[.int .i64 (s:Int),.int .i64 (d:Int),.int .i64 (q:Int)]] w (MakePost w (makeM R P ⟨(s:Int),d,q⟩)):=by
 have har:=area_bd _ _ hV.side
 have ha:=hS.area
 have hp0:=hV.pieces0
 have hp6:=hV.pieces6
 have hl0:=hS.len0
 have hl1:=hS.len1
 have h64:P.cells.length≤64:=by omega
 have HCP:=hide (fun W (hW:Ext w W)=>PCopy_any P u W (hP.ext hW) (by omega) (by omega) (by omega) (by omega) (by omega) (by omega))
 have hq0:=hS.quiet
 have HS:=hide hS
 have HT:=hide hT
 obtain⟨hs,hd,hsd,hq⟩:=hm
 have HM:Hid (makeM R P ⟨(s:Int),d,q⟩={ cells:=(P.cells.set s 0).set d (2 * (q:Int)+1+1),hand0:=P.hand0,hand1:=P.hand1.set ((P.cells.getD d 0-1) / 2).toNat (minI (P.hand1.getD ((P.cells.getD d 0-1) / 2).toNat 0+1) 1000),turn:=0,quiet:=0 }):=hide (by
  unfold makeM
  have hz2:=hz
  simp only [List.getD_eq_getElem?_getD] at hz2
  simp [hT,hkp,hz2,PosM.hand,setHand])
 have HKP:=hide hkp
 clear hkp
 generalize makeM R P ⟨(s:Int),d,q⟩=Q at *
 obtain⟨pA,pc,sA,sc,eA,ec,rfl,-⟩:=hR
 obtain⟨cA,cc,aA,ac,bA,bc,rfl,-⟩:=hP
 rw [hT] at HCP ⊢
 have hp6x:=hp6
 have hqh:q<P.hand1.length:=by omega
 have hzb:0≤P.cells.getD d 0∧P.cells.getD d 0≤12:=by have:=HS.out.cells (P.cells.getD d 0) (by simp [hd]);omega
 have hhb:∀ i,i<P.hand1.length→0≤P.hand1.getD i 0∧P.hand1.getD i 0≤1000:=fun i hi=>HS.out.held1 _ (by simp [hi])
 have hhq:=hhb q hqh
 have HHB:=hide hhb
 clear har ha hp0 hp6 hl0 hl1 hV hS hT hhb
 obtain⟨xa,k1,k2,k3,k4⟩:=blks4 w #[.string R.name,.int .i64 R.width,.int .i64 R.height,.slice pA R.pieces.length pc,.slice sA R.start.length sc,.bool R.falls,.bool R.keeps,.slice eA R.ends.length ec,.int .i64 R.blocked,.int .i64 R.quiet,.int .i64 R.rept] 26 #[.slice cA P.cells.length cc,.slice aA P.hand0.length ac,.slice bA P.hand1.length bc,.int .i64 1,.int .i64 P.quiet] 29 #[.int .i64 (s:Int),.int .i64 (d:Int),.int .i64 (q:Int)] 31 #[.slice none 0 0,.slice none 0 0,.slice none 0 0,.int .i64 0,.int .i64 0] 29
 have X0:=hide xa
 clear xa
 have f2:=k2.cell
 go_enter Crz.func39,Tryz.ntmps39
 go_wp2_with fail
 generalize ((((w.alloc _).alloc _).alloc _).alloc _)=w2 at *
 have hb34:w.heap.size+1+1<w.heap.size+1+1+1:=by omega
 have hb4:w.heap.size≤w.heap.size+1+1+1:=by omega
 have hb24:w.heap.size+1<w.heap.size+1+1+1:=by omega
 have hb14:w.heap.size<w.heap.size+1+1+1:=by omega
 generalize w.heap.size+1+1+1=B4 at *
 generalize w.heap.size+1+1=B3 at *
 generalize w.heap.size+1=B2 at *
 generalize hB1:w.heap.size=B1 at *
 have HB1:=hide hB1
 clear hB1
 refine(HCP.out _ X0.out).mono ?_
 rintro e w3 ⟨v3,rfl,⟨g0,c0,g1,c1,g2,c2,rfl,q0,q1,q2,r0,r1,r2,m0,m1,m2⟩,x3⟩
 rw [HT.out]
 have hw2:B4<w2.heap.size:=k4.lt
 have hw3:=x3.size
 have hn1:=r0.lt
 have hn2:=r1.lt
 have hn3:=r2.lt
 have l1:=(k1.ext x3).alloc (.cells #[.slice (some ⟨g0,0,none⟩) P.cells.length c0,.slice (some ⟨g1,0,none⟩) P.hand0.length c1,.slice (some ⟨g2,0,none⟩) P.hand1.length c2,.int .i64 1,.int .i64 P.quiet] 29)
 have l2:=(k2.ext x3).alloc (.cells #[.slice (some ⟨g0,0,none⟩) P.cells.length c0,.slice (some ⟨g1,0,none⟩) P.hand0.length c1,.slice (some ⟨g2,0,none⟩) P.hand1.length c2,.int .i64 1,.int .i64 P.quiet] 29)
 have l3:=(k3.ext x3).alloc (.cells #[.slice (some ⟨g0,0,none⟩) P.cells.length c0,.slice (some ⟨g1,0,none⟩) P.hand0.length c1,.slice (some ⟨g2,0,none⟩) P.hand1.length c2,.int .i64 1,.int .i64 P.quiet] 29)
 have l4:=(k4.ext x3).alloc (.cells #[.slice (some ⟨g0,0,none⟩) P.cells.length c0,.slice (some ⟨g1,0,none⟩) P.hand0.length c1,.slice (some ⟨g2,0,none⟩) P.hand1.length c2,.int .i64 1,.int .i64 P.quiet] 29)
 have l5:=Blk.new w3 29 #[.slice (some ⟨g0,0,none⟩) P.cells.length c0,.slice (some ⟨g1,0,none⟩) P.hand0.length c1,.slice (some ⟨g2,0,none⟩) P.hand1.length c2,.int .i64 1,.int .i64 P.quiet]
 have s0:=r0.alloc (.cells #[.slice (some ⟨g0,0,none⟩) P.cells.length c0,.slice (some ⟨g1,0,none⟩) P.hand0.length c1,.slice (some ⟨g2,0,none⟩) P.hand1.length c2,.int .i64 1,.int .i64 P.quiet] 29)
 have s1:=r1.alloc (.cells #[.slice (some ⟨g0,0,none⟩) P.cells.length c0,.slice (some ⟨g1,0,none⟩) P.hand0.length c1,.slice (some ⟨g2,0,none⟩) P.hand1.length c2,.int .i64 1,.int .i64 P.quiet] 29)
 have s2:=r2.alloc (.cells #[.slice (some ⟨g0,0,none⟩) P.cells.length c0,.slice (some ⟨g1,0,none⟩) P.hand0.length c1,.slice (some ⟨g2,0,none⟩) P.hand1.length c2,.int .i64 1,.int .i64 P.quiet] 29)
 have X3:=hide (qA (qT X0.out x3) (.cells #[.slice (some ⟨g0,0,none⟩) P.cells.length c0,.slice (some ⟨g1,0,none⟩) P.hand0.length c1,.slice (some ⟨g2,0,none⟩) P.hand1.length c2,.int .i64 1,.int .i64 P.quiet] 29))
 clear x3 k1 k2 k3 k4 f2 r0 r1 r2 HCP
 have hB5:B4<w3.heap.size:=by omega
 have NB2:∀ x,B4<x→¬ B2=x:=fun x hx=>by omega
 have NB1:∀ x,B4<x→¬ B1=x:=fun x hx=>by omega
 have hB5':B1≤w3.heap.size:=by omega
 go_upto_region 2 with (fail)
 have hlB:B1≤w3.heap.size:=hB5'
 have N:Hid (B1≤B4∧B4<g0∧g0<g1∧g1<g2∧g2<w3.heap.size):=hide (by omega)
 generalize w3.alloc _=w4 at *
 generalize w3.heap.size=B5 at *
 have n1:¬ B5=g0:=by have:=N.out;omega
 have n3:¬ g0=B5:=by have:=N.out;omega
 have n7:¬ B4=B5:=by have:=N.out;omega
 have n8:¬ B5=B4:=by have:=N.out;omega
 have n9:¬ B4=g0:=by have:=N.out;omega
 have n11:¬ g0=B4:=by have:=N.out;omega
 have n13:¬ B2=g0:=NB2 g0 (by have:=N.out;omega)
 have n14:¬ B1=g0:=NB1 g0 (by have:=N.out;omega)
 have n15:¬ B3=g0:=by have:=N.out;omega
 have n17:¬ B2=B5:=NB2 B5 (by have:=N.out;omega)
 have n19:¬ B1=B5:=NB1 B5 (by have:=N.out;omega)
 have n18:¬ B3=B5:=by have:=N.out;omega
 have e5:=l5.cell
 have e3:=l3.cell
 have e2:=l2.cell
 have p0d:=s0.cell hd
 have p0s:=s0.cell hs
 have p0f:=s0.frozen
 have hz2:=(HS.out.cells (P.cells.getD d 0) (by simp [hd])).2
 have HL:=hide (HS.out.len1)
 generalize P.cells.getD d 0=z at *
 generalize P.cells.getD s 0=y at *
 obtain⟨kk,hkk⟩:∃ kk:Nat,(z-1) / 2=(kk:Int):=⟨((z-1) / 2).toNat,by omega⟩
 have hkl:kk<P.hand1.length:=by have:=HL.out;omega
 have hkb:=HHB.out kk hkl
 rw [hkk,Int.toNat_natCast] at HM
 have z1':1≤z:=by omega
 have hds:¬ d=s:=fun h=>hsd h.symm
 have hs64:(s:Int)<(P.cells.length:Int):=by omega
 have hd64:(d:Int)<(P.cells.length:Int):=by omega
 have hq6:(q:Int)≤6:=by omega
 have hmin:∀ W ats ty a b,(Builtin.min_ ats ty #[.int .i64 a,.int .i64 b]).run Crz.prog W=.ok (.int .i64 (minI a b)) W:=run_min2
 have e1:=l1.cell
 rw [HKP.out] at e1
 go_upto_region 9 with (fail)
 rw [hkk]
 have HKK:=hide hkk
 clear hkk
 have L1:=(l1.far (p:=⟨g0,s,none⟩) n14 (.int .i64 0)).far (p:=⟨g0,d,none⟩) n14 (.int .i64 (2 * (q:Int)+1+1))
 have L2:=(l2.far (p:=⟨g0,s,none⟩) n13 (.int .i64 0)).far (p:=⟨g0,d,none⟩) n13 (.int .i64 (2 * (q:Int)+1+1))
 have L3:=(l3.far (p:=⟨g0,s,none⟩) n15 (.int .i64 0)).far (p:=⟨g0,d,none⟩) n15 (.int .i64 (2 * (q:Int)+1+1))
 have L4:=(l4.far (p:=⟨g0,s,none⟩) n9 (.int .i64 0)).far (p:=⟨g0,d,none⟩) n9 (.int .i64 (2 * (q:Int)+1+1))
 have L5:=(l5.far (p:=⟨g0,s,none⟩) n1 (.int .i64 0)).far (p:=⟨g0,d,none⟩) n1 (.int .i64 (2 * (q:Int)+1+1))
 have S0:=(s0.set_ s 0).set_ d (2 * (q:Int)+1+1)
 have S1:=(s1.far (p:=⟨g0,s,none⟩) (by have:=N.out;show g1≠g0;omega) (.int .i64 0)).far (p:=⟨g0,d,none⟩) (by have:=N.out;show g1≠g0;omega) (.int .i64 (2 * (q:Int)+1+1))
 have S2:=(s2.far (p:=⟨g0,s,none⟩) (by have:=N.out;show g2≠g0;omega) (.int .i64 0)).far (p:=⟨g0,d,none⟩) (by have:=N.out;show g2≠g0;omega) (.int .i64 (2 * (q:Int)+1+1))
 have X5:=hide (qS (qS X3.out (p:=⟨g0,s,none⟩) (by rw [HB1.out];have:=N.out;show B1≤g0;omega) (.int .i64 0)) (p:=⟨g0,d,none⟩) (by rw [HB1.out];have:=N.out;show B1≤g0;omega) (.int .i64 (2 * (q:Int)+1+1)))
 clear e1 e5 e3 e2 l1 l2 l3 l4 l5 s0 s1 s2 p0f p0d p0s
 generalize ((w4.setCell ⟨g0,s,none⟩ (.int .i64 0)).setCell ⟨g0,d,none⟩ (.int .i64 (2 * (q:Int)+1+1)))=w5 at *
 have e1:=L1.cell
 have e5:=L5.cell
 have e4:=L4.cell
 have e3:=L3.cell
 have e2:=L2.cell
 have f4:=L4.frozen
 have f5:=L5.frozen
 have hq1:=hq0.1
 have hq2:=hq0.2
 clear hq0
 have q1':¬ B5=g2:=by have:=N.out;omega
 have q2':¬ g2=B5:=by have:=N.out;omega
 have q3':¬ B4=g2:=by have:=N.out;omega
 have q4':¬ g2=B4:=by have:=N.out;omega
 have q5':¬ B2=g2:=NB2 g2 (by have:=N.out;omega)
 have q6':¬ B3=g2:=by have:=N.out;omega
 have ph:=S2.cell hkl
 have pf:=S2.frozen
 have i0:(0:Int)≤(kk:Int):=by omega
 have i1:(kk:Int)<(P.hand1.length:Int):=by omega
 generalize hh:P.hand1.getD kk 0=h at *
 have HH:=hide hh
 clear hh
 obtain⟨hh0,hh1⟩:=hkb
 go_still_tail 17,(by kernel_rfl)
 go_upto_region 10 with (fail)
 have M2:=(L2.far (p:=⟨g2,kk,none⟩) q5' (.int .i64 (minI (h+1) 1000))).drew
 have M3:=(L3.far (p:=⟨g2,kk,none⟩) q6' (.int .i64 (minI (h+1) 1000))).drew
 have M4:=(L4.far (p:=⟨g2,kk,none⟩) q3' (.int .i64 (minI (h+1) 1000))).drew
 have M5:=(L5.far (p:=⟨g2,kk,none⟩) q1' (.int .i64 (minI (h+1) 1000))).drew
 have T0:=(S0.far (p:=⟨g2,kk,none⟩) (by have:=N.out;show g0≠g2;omega) (.int .i64 (minI (h+1) 1000))).drew
 have T2:=(S2.set_ kk (minI (h+1) 1000)).drew
 have T1:=(S1.far (p:=⟨g2,kk,none⟩) (by have:=N.out;show g1≠g2;omega) (.int .i64 (minI (h+1) 1000))).drew
 have X6:=hide (Below.drew (qS X5.out (p:=⟨g2,kk,none⟩) (by rw [HB1.out];have:=N.out;show B1≤g2;omega) (.int .i64 (minI (h+1) 1000))))
 clear e1 e5 e4 e3 e2 f4 f5 L1 L2 L3 L4 L5 S0 S1 S2 ph pf
 generalize (w5.setCell ⟨g2,kk,none⟩ (.int .i64 (minI (h+1) 1000))).drew=w6 at *
 have e5:=M5.cell
 have e4:=M4.cell
 have e3:=M3.cell
 have e2:=M2.cell
 have f4:=M4.frozen
 have f5:=M5.frozen
 go_wp2
 have hxB5:w.heap.size≤B5:=by rw [HB1.out];exact hlB
 have hxB4:w.heap.size≤B4:=by rw [HB1.out];exact N.out.1
 have K:=blk_set5 (Blk.far (Blk.far (Blk.far M4 (p:=⟨B5,4,none⟩) n7 (.int .i64 (minI (P.quiet+1) 200))) (p:=⟨B5,4,none⟩) n7 (.int .i64 0)) (p:=⟨B5,3,none⟩) n7 (.int .i64 0)) (u0:=.slice (some ⟨g0,0,none⟩) P.cells.length c0) (u1:=.slice (some ⟨g1,0,none⟩) P.hand0.length c1) (u2:=.slice (some ⟨g2,0,none⟩) P.hand1.length c2) (u3:=.int .i64 0) (u4:=.int .i64 0)
 have E0:=(IRow.far (IRow.far (IRow.far (IRow.far (IRow.far (IRow.far (IRow.far (IRow.far T0 (p:=⟨B5,4,none⟩) (by have:=N.out;show g0≠B5;omega) (.int .i64 (minI (P.quiet+1) 200))) (p:=⟨B5,4,none⟩) (by have:=N.out;show g0≠B5;omega) (.int .i64 0)) (p:=⟨B5,3,none⟩) (by have:=N.out;show g0≠B5;omega) (.int .i64 0)) (p:=⟨B4,0,none⟩) (by have:=N.out;show g0≠B4;omega) (.slice (some ⟨g0,0,none⟩) P.cells.length c0)) (p:=⟨B4,1,none⟩) (by have:=N.out;show g0≠B4;omega) (.slice (some ⟨g1,0,none⟩) P.hand0.length c1)) (p:=⟨B4,2,none⟩) (by have:=N.out;show g0≠B4;omega) (.slice (some ⟨g2,0,none⟩) P.hand1.length c2)) (p:=⟨B4,3,none⟩) (by have:=N.out;show g0≠B4;omega) (.int .i64 0)) (p:=⟨B4,4,none⟩) (by have:=N.out;show g0≠B4;omega) (.int .i64 0))
 have E1:=(IRow.far (IRow.far (IRow.far (IRow.far (IRow.far (IRow.far (IRow.far (IRow.far T1 (p:=⟨B5,4,none⟩) (by have:=N.out;show g1≠B5;omega) (.int .i64 (minI (P.quiet+1) 200))) (p:=⟨B5,4,none⟩) (by have:=N.out;show g1≠B5;omega) (.int .i64 0)) (p:=⟨B5,3,none⟩) (by have:=N.out;show g1≠B5;omega) (.int .i64 0)) (p:=⟨B4,0,none⟩) (by have:=N.out;show g1≠B4;omega) (.slice (some ⟨g0,0,none⟩) P.cells.length c0)) (p:=⟨B4,1,none⟩) (by have:=N.out;show g1≠B4;omega) (.slice (some ⟨g1,0,none⟩) P.hand0.length c1)) (p:=⟨B4,2,none⟩) (by have:=N.out;show g1≠B4;omega) (.slice (some ⟨g2,0,none⟩) P.hand1.length c2)) (p:=⟨B4,3,none⟩) (by have:=N.out;show g1≠B4;omega) (.int .i64 0)) (p:=⟨B4,4,none⟩) (by have:=N.out;show g1≠B4;omega) (.int .i64 0))
 have E2:=(IRow.far (IRow.far (IRow.far (IRow.far (IRow.far (IRow.far (IRow.far (IRow.far T2 (p:=⟨B5,4,none⟩) (by have:=N.out;show g2≠B5;omega) (.int .i64 (minI (P.quiet+1) 200))) (p:=⟨B5,4,none⟩) (by have:=N.out;show g2≠B5;omega) (.int .i64 0)) (p:=⟨B5,3,none⟩) (by have:=N.out;show g2≠B5;omega) (.int .i64 0)) (p:=⟨B4,0,none⟩) (by have:=N.out;show g2≠B4;omega) (.slice (some ⟨g0,0,none⟩) P.cells.length c0)) (p:=⟨B4,1,none⟩) (by have:=N.out;show g2≠B4;omega) (.slice (some ⟨g1,0,none⟩) P.hand0.length c1)) (p:=⟨B4,2,none⟩) (by have:=N.out;show g2≠B4;omega) (.slice (some ⟨g2,0,none⟩) P.hand1.length c2)) (p:=⟨B4,3,none⟩) (by have:=N.out;show g2≠B4;omega) (.int .i64 0)) (p:=⟨B4,4,none⟩) (by have:=N.out;show g2≠B4;omega) (.int .i64 0))
 have X:=hide (qS (qS (qS (qS (qS (qS (qS (qS X6.out (p:=⟨B5,4,none⟩) hxB5 (.int .i64 (minI (P.quiet+1) 200))) (p:=⟨B5,4,none⟩) hxB5 (.int .i64 0)) (p:=⟨B5,3,none⟩) hxB5 (.int .i64 0)) (p:=⟨B4,0,none⟩) hxB4 (.slice (some ⟨g0,0,none⟩) P.cells.length c0)) (p:=⟨B4,1,none⟩) hxB4 (.slice (some ⟨g1,0,none⟩) P.hand0.length c1)) (p:=⟨B4,2,none⟩) hxB4 (.slice (some ⟨g2,0,none⟩) P.hand1.length c2)) (p:=⟨B4,3,none⟩) hxB4 (.int .i64 0)) (p:=⟨B4,4,none⟩) hxB4 (.int .i64 0))
 clear e5 e4 e3 e2 f4 f5 M2 M3 M4 M5 T0 T1 T2
 generalize ((((((((w6.setCell ⟨B5,4,none⟩ (.int .i64 (minI (P.quiet+1) 200))).setCell ⟨B5,4,none⟩ (.int .i64 0)).setCell ⟨B5,3,none⟩ (.int .i64 0)).setCell ⟨B4,0,none⟩ (.slice (some ⟨g0,0,none⟩) P.cells.length c0)).setCell ⟨B4,1,none⟩ (.slice (some ⟨g1,0,none⟩) P.hand0.length c1)).setCell ⟨B4,2,none⟩ (.slice (some ⟨g2,0,none⟩) P.hand1.length c2)).setCell ⟨B4,3,none⟩ (.int .i64 0)).setCell ⟨B4,4,none⟩ (.int .i64 0))=Wf at *
 have rr0:Wf.cell? ⟨B4,0,none⟩=some (.slice (some ⟨g0,0,none⟩) P.cells.length c0):=K.cell 0
 have rr1:Wf.cell? ⟨B4,1,none⟩=some (.slice (some ⟨g1,0,none⟩) P.hand0.length c1):=K.cell 1
 have rr2:Wf.cell? ⟨B4,2,none⟩=some (.slice (some ⟨g2,0,none⟩) P.hand1.length c2):=K.cell 2
 have rr3:Wf.cell? ⟨B4,3,none⟩=some (.int .i64 0):=K.cell 3
 have rr4:Wf.cell? ⟨B4,4,none⟩=some (.int .i64 0):=K.cell 4
 refine bodyPost_ret (v:=.agg #[.slice (some ⟨g0,0,none⟩) P.cells.length c0,.slice (some ⟨g1,0,none⟩) P.hand0.length c1,.slice (some ⟨g2,0,none⟩) P.hand1.length c2,.int .i64 0,.int .i64 0]) ?_ rfl ?_
 ·simp [results,Tryz.results39,go_sem,rr0,rr1,rr2,rr3,rr4]
 ·refine⟨_,rfl,?_,X.out⟩
  rw [HM.out]
  refine⟨g0,c0,g1,c1,g2,c2,by simp,by rw [HB1.out];have:=N.out;omega,q1,q2,by simpa using E0,by simpa using E1,by simpa using E2,by simpa using m0,by simpa using m1,by simpa using m2⟩
end Go.Proofs.YtdoibgmmijhlfaaGreat
